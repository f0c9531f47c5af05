/- Of colours: how many colourings. -/
import Derived.Test.YtcmaffldmodacaaTab
import Derived.Test.YtcmaffldmodacaaG1
import Derived.Test.YtcmaffldmodacaaPlForest
import Derived.Test.YtcmaffldmodacaaSealI
import Derived.Test.YtcmaffldmodacaaDag2
set_option maxRecDepth 100000
namespace Go.Ab
open Go Go.Proofs
theorem count_at (n : Int) (a : Arc) (k : Int) (h1 : 1 ≤ n) (h2 : n ≤ 8) : ACall Try.prog 57 [.one (.int .i64 k), .one (.rp (.ints .i64 [(max a.src a.dst)]) 0 0), .one (.rp (.ints .i64 [(min a.src a.dst)]) 0 0), .one (.rp (.ints .i64 [n]) 0 0)] [] (fun ov oh => ov = .one (.int .i64 (mrgI n a k)) ∧ oh = []) := by
  refine acall_intro hT Try.func57 rfl (by kernel_rfl) rfl (by kernel_rfl) ?_
  refine awp_run_seq [0, 1, 2, 3] [] [] ⟨16, [(0, .one (.int .i64 k)), (1, .one (.rp (.ints .i64 [(max a.src a.dst)]) 0 0)), (2, .one (.rp (.ints .i64 [(min a.src a.dst)]) 0 0)), (3, .one (.rp (.ints .i64 [n]) 0 0))], []⟩ hT (by kernel_rfl) trivial ?_
  refine awp_seq ?_
  refine awp_run_seq [0, 1, 2, 3, 8] [] [] ⟨16, [(0, .one (.int .i64 k)), (1, .one (.rp (.ints .i64 [(max a.src a.dst)]) 0 0)), (2, .one (.rp (.ints .i64 [(min a.src a.dst)]) 0 0)), (3, .one (.rp (.ints .i64 [n]) 0 0)), (8, .one (.bool (decide (k = (max a.src a.dst)))))], []⟩ hT (by kernel_rfl) trivial ?_
  refine awp_cond (b := (decide (k = (max a.src a.dst)))) (by kernel_rfl) (fun c1 => ?_) (fun c1 => ?_)
  ·
    try simp only [bs] at c1
    refine awp_run_seq [5] [] [] ⟨16, [(5, .one (.int .i64 (min a.src a.dst)))], []⟩ hT (by kernel_rfl) trivial ?_
    refine awp_ret ?_
    refine kRet.ret _ [] [] (.one (.int .i64 (min a.src a.dst))) [] (by kernel_rfl) trivial ?_
    exact ⟨congrArg (fun x1 => (.one (.int .i64 x1) : AV)) (show (min a.src a.dst) = (mrgI n a k) from by rw [mrgI, if_pos c1]), rfl⟩
  ·
    try simp only [bs] at c1
    refine awp_skip ?_
    refine awp_seq ?_
    refine awp_run_seq [0, 1, 13] [] [(-9223372036854775808 ≤ (n - 1) ∧ (n - 1) ≤ 9223372036854775807)] ⟨16, [(0, .one (.int .i64 k)), (1, .one (.rp (.ints .i64 [(max a.src a.dst)]) 0 0)), (13, .one (.bool (decide (k = (n - 1)))))], []⟩ hT (by kernel_rfl) ⟨(by omega), trivial⟩ ?_
    refine awp_cond (b := (decide (k = (n - 1)))) (by kernel_rfl) (fun c3 => ?_) (fun c3 => ?_)
    ·
      try simp only [bs] at c3
      refine awp_run_seq [5] [] [] ⟨16, [(5, .one (.int .i64 (max a.src a.dst)))], []⟩ hT (by kernel_rfl) trivial ?_
      refine awp_ret ?_
      refine kRet.ret _ [] [] (.one (.int .i64 (max a.src a.dst))) [] (by kernel_rfl) trivial ?_
      exact ⟨congrArg (fun x1 => (.one (.int .i64 x1) : AV)) (show (max a.src a.dst) = (mrgI n a k) from by rw [mrgI, if_neg c1, if_pos c3]), rfl⟩
    ·
      try simp only [bs] at c3
      refine awp_skip ?_
      refine awp_run_seq [5] [] [] ⟨16, [(5, .one (.int .i64 k))], []⟩ hT (by kernel_rfl) trivial ?_
      refine awp_ret ?_
      refine kRet.ret _ [] [] (.one (.int .i64 k)) [] (by kernel_rfl) trivial ?_
      exact ⟨congrArg (fun x1 => (.one (.int .i64 x1) : AV)) (show k = (mrgI n a k) from by rw [mrgI, if_neg c1, if_neg c3]), rfl⟩
theorem count0 (q n : Int) (h1 : 1 ≤ n) (h8 : n ≤ 8) (hq0 : 0 ≤ q) (hq1 : q ≤ 20) : ACall Try.prog 31 [.one (.int .i64 n), .one (.ro (.arcs [])), .one (.int .i64 q)] [] (fun ov oh => ov = .one (.int .i64 (cnt q 0 n [])) ∧ oh = []) := by
  refine acall_intro hT Try.func31 rfl (by kernel_rfl) rfl (by kernel_rfl) ?_
  refine awp_run_seq [1, 2, 3] [103] [] ⟨77, [(1, .one (.ro (.arcs []))), (2, .one (.int .i64 q)), (3, .one (.ptr 103 0 0))], [(103, .box 1 1 [(.int .i64 n)])]⟩ hT (by kernel_rfl) trivial ?_
  refine awp_seq ?_
  refine awp_run_seq [1, 2, 3, 18] [103] [] ⟨77, [(1, .one (.ro (.arcs []))), (2, .one (.int .i64 q)), (3, .one (.ptr 103 0 0)), (18, .one (.bool true))], [(103, .box 1 1 [(.int .i64 n)])]⟩ hT (by kernel_rfl) trivial ?_
  refine awp_cond (b := true) (by kernel_rfl) (fun _ => ?_) (fun h => by cases h)
  refine awp_run_seq [2, 3, 7] [103] [] ⟨77, [(2, .one (.int .i64 q)), (3, .one (.ptr 103 0 0)), (7, .one (.int .i64 1))], [(103, .box 1 1 [(.int .i64 n)])]⟩ hT (by kernel_rfl) trivial ?_
  refine awp_seq ?_
  refine awp_run_seq [2, 7, 19, 20] [] [(0 < 1)] ⟨77, [(2, .one (.int .i64 q)), (7, .one (.int .i64 1)), (19, .one (.int .i64 n)), (20, .one (.int .i64 0))], []⟩ hT (by kernel_rfl) ⟨(by decide), trivial⟩ ?_
  refine awp_block ?_
  refine awp_loop (I := fun κ σ => ∃ (i : Nat) (o : Int), ((i ≤ n.toNat) ∧ (o = q ^ i) ∧ n.toNat - i = κ) ∧ σ = ⟨77, [(2, .one (.int .i64 q)), (7, .one (.int .i64 o)), (19, .one (.int .i64 n)), (20, .one (.int .i64 (i : Int)))], []⟩) _ ⟨0, 1, ⟨(by omega), (by simp), rfl⟩, (by kernel_rfl)⟩ ?_
  rintro κ _ ⟨i, o, ⟨hi, ho, rfl⟩, rfl⟩
  have hp := pow8_bd hq0 hq1 (i := i) (by omega)
  refine awp_run_seq [2, 7, 19, 20, 21] [] [] ⟨77, [(2, .one (.int .i64 q)), (7, .one (.int .i64 o)), (19, .one (.int .i64 n)), (20, .one (.int .i64 (i : Int))), (21, .one (.bool (decide ((i : Int) < n))))], []⟩ hT (by kernel_rfl) trivial ?_
  refine awp_seq ?_
  refine awp_cond (b := (decide ((i : Int) < n))) (by kernel_rfl) (fun c4 => ?_) (fun c4 => ?_)
  ·
    try simp only [bs] at c4
    have hp2 := pow8_bd hq0 hq1 (i := i + 1) (by omega)
    rw [Int.pow_succ, ← ho] at hp2
    refine awp_skip ?_
    refine awp_seq ?_
    refine awp_block ?_
    refine awp_run [2, 7, 19, 20] [] [(-9223372036854775808 ≤ (o * q) ∧ (o * q) ≤ 9223372036854775807)] ⟨77, [(2, .one (.int .i64 q)), (7, .one (.int .i64 (o * q))), (19, .one (.int .i64 n)), (20, .one (.int .i64 (i : Int)))], []⟩ hT (by kernel_rfl) ⟨(by omega), trivial⟩ ?_
    refine awp_run [2, 7, 19, 20] [] [(-9223372036854775808 ≤ (((i + 1) : Nat) : Int) ∧ (((i + 1) : Nat) : Int) ≤ 9223372036854775807)] ⟨77, [(2, .one (.int .i64 q)), (7, .one (.int .i64 (o * q))), (19, .one (.int .i64 n)), (20, .one (.int .i64 (((i + 1) : Nat) : Int)))], []⟩ hT (by kernel_rfl) ⟨(by omega), trivial⟩ ?_
    refine loop_end _ ?_ ⟨(i + 1), (o * q), ⟨(by omega), (by rw [Int.pow_succ, ← ho]), rfl⟩, (by kernel_rfl)⟩
    omega
  ·
    try simp only [bs] at c4
    refine awp_exit ?_
    refine awp_run_seq [6] [] [] ⟨77, [(6, .one (.int .i64 o))], []⟩ hT (by kernel_rfl) trivial ?_
    refine awp_ret ?_
    refine kRet.ret _ [] [] (.one (.int .i64 o)) [] (by kernel_rfl) trivial ?_
    exact ⟨congrArg (fun x1 => (.one (.int .i64 x1) : AV)) (show o = (cnt q 0 n []) from by rw [ho, show i = n.toNat by omega]; rfl), rfl⟩
theorem count_step (q : Int) (m : Nat) (ih : ∀ (n : Int) (l : List Arc), l.length = m → 1 ≤ n → n ≤ 8 → InR n l → ACall Try.prog 31 [.one (.int .i64 n), .one (.ro (.arcs l)), .one (.int .i64 q)] [] (fun ov oh => ov = .one (.int .i64 (cnt q m n l)) ∧ oh = [])) (n : Int) (a : Arc) (r : List Arc) (hl : r.length = m) (h1 : 1 ≤ n) (h8 : n ≤ 8) (hA : InR n (a :: r)) (hq0 : 0 ≤ q) (hq1 : q ≤ 20) (hm : m ≤ 11) : ACall Try.prog 31 [.one (.int .i64 n), .one (.ro (.arcs (a :: r))), .one (.int .i64 q)] [] (fun ov oh => ov = .one (.int .i64 (cnt q (m + 1) n (a :: r))) ∧ oh = []) := by
  refine acall_intro hT Try.func31 rfl (by kernel_rfl) rfl (by kernel_rfl) ?_
  have hlc : (a :: r).length = r.length + 1 := rfl
  obtain ⟨a1, a2, a3, a4⟩ := hA a List.mem_cons_self
  have hA' : InR n r := fun c hc => hA c (List.mem_cons_of_mem _ hc)
  refine awp_run_seq [1, 2, 3] [103] [] ⟨77, [(1, .one (.ro (.arcs (a :: r)))), (2, .one (.int .i64 q)), (3, .one (.ptr 103 0 0))], [(103, .box 1 1 [(.int .i64 n)])]⟩ hT (by kernel_rfl) trivial ?_
  refine awp_seq ?_
  refine awp_run_seq [1, 2, 3, 18] [103] [] ⟨77, [(1, .one (.ro (.arcs (a :: r)))), (2, .one (.int .i64 q)), (3, .one (.ptr 103 0 0)), (18, .one (.bool (decide ((((List.length (a :: r)) : Nat) : Int) = 0))))], [(103, .box 1 1 [(.int .i64 n)])]⟩ hT (by kernel_rfl) trivial ?_
  refine awp_cond (b := (decide ((((List.length (a :: r)) : Nat) : Int) = 0))) (by kernel_rfl) (fun c1 => ?_) (fun c1 => ?_)
  ·
    try simp only [bs] at c1
    exfalso; omega
  ·
    try simp only [bs] at c1
    refine awp_skip ?_
    refine awp_seq (awp_any [] false [2, 3, 8, 9] [103, 108] 8 [(0, []), (1, [((0 : Int) ≤ (0 : Int)), ((0 : Int) < (((List.length (a :: r)) : Nat) : Int))]), (2, []), (3, []), (4, [((0 : Int) ≤ 1), ((1 : Int) ≤ (((List.length (a :: r)) : Nat) : Int)), ((((List.length (a :: r)) : Nat) : Int) ≤ (((List.length (a :: r)) : Nat) : Int))]), (5, []), (6, [(0 < 1)]), (7, [])] ⟨77, [(2, .one (.int .i64 q)), (3, .one (.ptr 103 0 0)), (8, .one (.ptr 108 0 0)), (9, .one (.ro (.arcs (List.drop 1 (List.take (List.length (a :: r)) (a :: r))))))], [(103, .box 1 1 [(.int .i64 n)]), (108, .box 1 3 [(.int .i64 ((List.getD (a :: r) 0 default).src)), (.int .i64 ((List.getD (a :: r) 0 default).dst)), (.int .i64 ((List.getD (a :: r) 0 default).cap))])]⟩ (by kernel_rfl) (by kernel_rfl) hT (by kernel_rfl) ⟨trivial, ⟨(by omega), (by omega), trivial⟩, trivial, trivial, ⟨(by omega), (by omega), (by omega), trivial⟩, trivial, ⟨(by decide), trivial⟩, trivial, trivial⟩ ?_)
    refine awp_seq ?_
    rw [show (List.drop 1 (List.take (List.length (a :: r)) (a :: r))) = r from (by simp)]
    rw [show (List.getD (a :: r) 0 default) = a from rfl]
    refine awp_run_seq [2, 3, 8, 9, 36] [103, 108] [(0 < 1), (0 < 1)] ⟨77, [(2, .one (.int .i64 q)), (3, .one (.ptr 103 0 0)), (8, .one (.ptr 108 0 0)), (9, .one (.ro (.arcs r))), (36, .one (.bool (decide ((a.src) = (a.dst)))))], [(103, .box 1 1 [(.int .i64 n)]), (108, .box 1 3 [(.int .i64 (a.src)), (.int .i64 (a.dst)), (.int .i64 (a.cap))])]⟩ hT (by kernel_rfl) ⟨(by decide), (by decide), trivial⟩ ?_
    refine awp_cond (b := (decide ((a.src) = (a.dst)))) (by kernel_rfl) (fun c9 => ?_) (fun c9 => ?_)
    ·
      try simp only [bs] at c9
      refine awp_run_seq [6] [] [] ⟨77, [(6, .one (.int .i64 0))], []⟩ hT (by kernel_rfl) trivial ?_
      refine awp_ret ?_
      refine kRet.ret _ [] [] (.one (.int .i64 0)) [] (by kernel_rfl) trivial ?_
      exact ⟨congrArg (fun x1 => (.one (.int .i64 x1) : AV)) (show 0 = (cnt q (m + 1) n (a :: r)) from by rw [cnt, if_pos c9]), rfl⟩
    ·
      try simp only [bs] at c9
      have hmA := mrg_inR a1 a2 a3 a4 c9 hA'
      have hl2 : (List.map (mrg n a) r).length = m := by rw [List.length_map]; exact hl
      refine awp_skip ?_
      refine awp_seq (awp_calm3 [] false [[], [0], [], [2], [0, 1, 2, 3], [], [5], [], [7], [5, 6, 7, 8], [], [], [0, 1, 2, 3, 4, 10, 11], [0, 1, 2, 3, 4, 5, 6, 7, 8, 9, 10, 11, 12]] 0 14 #[false, false, false, false, false, false, false, false, false, false, false, false, false, false] [2, 3, 8, 9] [103, 108] [] ⟨77, [(2, .one (.int .i64 q)), (3, .one (.ptr 103 0 0)), (8, .one (.ptr 108 0 0)), (9, .one (.ro (.arcs r)))], [(103, .box 1 1 [(.int .i64 n)]), (108, .box 1 3 [(.int .i64 (a.src)), (.int .i64 (a.dst)), (.int .i64 (a.cap))])]⟩ (by kernel_rfl) hT (by kernel_rfl) (by kernel_rfl) (by kernel_rfl) (by kernel_rfl) trivial ?_)
      refine aany_dag2 (n := 0) (L := #[true, true, true, true, true, true, true, true, true, true, true, true, true, true]) (s' := ⟨77, [(2, .one (.int .i64 q)), (3, .one (.ptr 103 0 0)), (9, .one (.ro (.arcs r))), (10, .one (.ptr 110 0 0)), (11, .one (.ptr 111 0 0))], [(103, .box 1 1 [(.int .i64 n)]), (110, .box 1 1 [(.int .i64 (min (a.src) (a.dst)))]), (111, .box 1 1 [(.int .i64 (max (a.src) (a.dst)))])]⟩) [] false 14 [2, 3, 9, 10, 11] [103, 110, 111] [(0, []), (1, [(0 < 1)]), (2, []), (3, [(0 < 1)]), (4, []), (5, []), (6, [(0 < 1)]), (7, []), (8, [(0 < 1)]), (9, []), (10, []), (11, []), (12, [(0 < 1)]), (13, [(0 < 1)])] hT (by kernel_rfl) (by kernel_rfl) (by kernel_rfl) (by kernel_rfl) ⟨trivial, ⟨(by decide), trivial⟩, trivial, ⟨(by decide), trivial⟩, trivial, trivial, ⟨(by decide), trivial⟩, trivial, ⟨(by decide), trivial⟩, trivial, trivial, trivial, ⟨(by decide), trivial⟩, ⟨(by decide), trivial⟩, trivial⟩ ?_
      refine aany_end [] false [2, 3, 9, 10, 11] [103, 110, 111] 1 [] ⟨77, [(2, .one (.int .i64 q)), (3, .one (.ptr 103 0 0)), (9, .one (.ro (.arcs r))), (10, .one (.ptr 110 0 0)), (11, .one (.ptr 111 0 0))], [(103, .box 1 1 [(.int .i64 n)]), (110, .box 1 1 [(.int .i64 (min (a.src) (a.dst)))]), (111, .box 1 1 [(.int .i64 (max (a.src) (a.dst)))])]⟩ (by kernel_rfl) hT (by kernel_rfl) trivial ?_
      refine awp_run_seq [2, 3, 9, 10, 11, 12] [103, 110, 111] [] ⟨77, [(2, .one (.int .i64 q)), (3, .one (.ptr 103 0 0)), (9, .one (.ro (.arcs r))), (10, .one (.ptr 110 0 0)), (11, .one (.ptr 111 0 0)), (12, .one .nils)], [(103, .box 1 1 [(.int .i64 n)]), (110, .box 1 1 [(.int .i64 (min (a.src) (a.dst)))]), (111, .box 1 1 [(.int .i64 (max (a.src) (a.dst)))])]⟩ hT (by kernel_rfl) trivial ?_
      refine awp_weak (awk_seali 111 (s' := ⟨77, [(2, .one (.int .i64 q)), (3, .one (.ptr 103 0 0)), (9, .one (.ro (.arcs r))), (10, .one (.ptr 110 0 0)), (11, .one (.rp (.ints .i64 [(max (a.src) (a.dst))]) 0 0)), (12, .one .nils)], [(103, .box 1 1 [(.int .i64 n)]), (110, .box 1 1 [(.int .i64 (min (a.src) (a.dst)))])]⟩) (by kernel_rfl)) ?_
      refine awp_weak (awk_seali 110 (s' := ⟨77, [(2, .one (.int .i64 q)), (3, .one (.ptr 103 0 0)), (9, .one (.ro (.arcs r))), (10, .one (.rp (.ints .i64 [(min (a.src) (a.dst))]) 0 0)), (11, .one (.rp (.ints .i64 [(max (a.src) (a.dst))]) 0 0)), (12, .one .nils)], [(103, .box 1 1 [(.int .i64 n)])]⟩) (by kernel_rfl)) ?_
      refine awp_weak (awk_seali 103 (s' := ⟨77, [(2, .one (.int .i64 q)), (3, .one (.rp (.ints .i64 [n]) 0 0)), (9, .one (.ro (.arcs r))), (10, .one (.rp (.ints .i64 [(min (a.src) (a.dst))]) 0 0)), (11, .one (.rp (.ints .i64 [(max (a.src) (a.dst))]) 0 0)), (12, .one .nils)], []⟩) (by kernel_rfl)) ?_
      refine awp_run_seq [2, 3, 9, 12, 13] [] [] ⟨77, [(2, .one (.int .i64 q)), (3, .one (.rp (.ints .i64 [n]) 0 0)), (9, .one (.ro (.arcs r))), (12, .one .nils), (13, .one (.fn 57 [(.rp (.ints .i64 [(max (a.src) (a.dst))]) 0 0), (.rp (.ints .i64 [(min (a.src) (a.dst))]) 0 0), (.rp (.ints .i64 [n]) 0 0)]))], []⟩ hT (by kernel_rfl) trivial ?_
      refine awp_seq ?_
      refine awp_run_seq [2, 3, 9, 12, 13, 48, 49, 50] [] [] ⟨77, [(2, .one (.int .i64 q)), (3, .one (.rp (.ints .i64 [n]) 0 0)), (9, .one (.ro (.arcs r))), (12, .one .nils), (13, .one (.fn 57 [(.rp (.ints .i64 [(max (a.src) (a.dst))]) 0 0), (.rp (.ints .i64 [(min (a.src) (a.dst))]) 0 0), (.rp (.ints .i64 [n]) 0 0)])), (48, .one (.ro (.arcs r))), (49, .one (.int .i64 ((r.length : Nat) : Int))), (50, .one (.int .i64 0))], []⟩ hT (by kernel_rfl) trivial ?_
      refine awp_block ?_
      refine awp_weak (awk_empty 5012 (.flat (.arcs [])) rfl (by decide) _) ?_
      refine awp_weak (awk_slot 12 (.one .nils) (.one (.rw 5012 0 0)) _ (by kernel_rfl) (.one (wkv_nils (o := .flat (.arcs [])) (by kernel_rfl)))) ?_
      refine awp_loop (I := fun κ σ => ∃ (k : Nat) (oAs : List Arc), ((k ≤ r.length) ∧ (oAs = (r.take k).map (mrg n a)) ∧ r.length - k = κ) ∧ σ = ⟨77, [(2, .one (.int .i64 q)), (3, .one (.rp (.ints .i64 [n]) 0 0)), (9, .one (.ro (.arcs r))), (12, .one (.rw 5012 0 oAs.length)), (13, .one (.fn 57 [(.rp (.ints .i64 [(max (a.src) (a.dst))]) 0 0), (.rp (.ints .i64 [(min (a.src) (a.dst))]) 0 0), (.rp (.ints .i64 [n]) 0 0)])), (48, .one (.ro (.arcs r))), (49, .one (.int .i64 ((r.length : Nat) : Int))), (50, .one (.int .i64 (k : Int)))], [(5012, .flat (.arcs oAs))]⟩) _ ⟨0, [], ⟨(by omega), (by rfl), rfl⟩, (by kernel_rfl)⟩ ?_
      rintro κ _ ⟨k, oAs, ⟨hk, ho, rfl⟩, rfl⟩
      have hol : oAs.length = k := by rw [ho, List.length_map, List.length_take]; omega
      refine awp_run_seq [2, 3, 9, 12, 13, 48, 49, 50, 51] [5012] [] ⟨77, [(2, .one (.int .i64 q)), (3, .one (.rp (.ints .i64 [n]) 0 0)), (9, .one (.ro (.arcs r))), (12, .one (.rw 5012 0 oAs.length)), (13, .one (.fn 57 [(.rp (.ints .i64 [(max (a.src) (a.dst))]) 0 0), (.rp (.ints .i64 [(min (a.src) (a.dst))]) 0 0), (.rp (.ints .i64 [n]) 0 0)])), (48, .one (.ro (.arcs r))), (49, .one (.int .i64 ((r.length : Nat) : Int))), (50, .one (.int .i64 (k : Int))), (51, .one (.bool (decide ((k : Int) < ((r.length : Nat) : Int)))))], [(5012, .flat (.arcs oAs))]⟩ hT (by kernel_rfl) trivial ?_
      refine awp_seq ?_
      refine awp_cond (b := (decide ((k : Int) < ((r.length : Nat) : Int)))) (by kernel_rfl) (fun c15 => ?_) (fun c15 => ?_)
      ·
        try simp only [bs] at c15
        have hkr : k < r.length := by omega
        have htk := take_getD r default k hkr
        refine awp_skip ?_
        refine awp_seq ?_
        refine awp_block ?_
        refine awp_run_seq [2, 3, 9, 12, 13, 15, 48, 49, 50] [115, 5012] [((0 : Int) ≤ (k : Int)), ((k : Int) < ((r.length : Nat) : Int)), (0 < 1)] ⟨77, [(2, .one (.int .i64 q)), (3, .one (.rp (.ints .i64 [n]) 0 0)), (9, .one (.ro (.arcs r))), (12, .one (.rw 5012 0 oAs.length)), (13, .one (.fn 57 [(.rp (.ints .i64 [(max (a.src) (a.dst))]) 0 0), (.rp (.ints .i64 [(min (a.src) (a.dst))]) 0 0), (.rp (.ints .i64 [n]) 0 0)])), (15, .one (.ptr 115 0 0)), (48, .one (.ro (.arcs r))), (49, .one (.int .i64 ((r.length : Nat) : Int))), (50, .one (.int .i64 (k : Int)))], [(115, .box 1 3 [(.int .i64 ((List.getD r k default).src)), (.int .i64 ((List.getD r k default).dst)), (.int .i64 ((List.getD r k default).cap))]), (5012, .flat (.arcs oAs))]⟩ hT (by kernel_rfl) ⟨(by omega), (by omega), (by decide), trivial⟩ ?_
        refine awp_calm2 [(4, ⟨[.one (.int .i64 ((List.getD r k default).src)), .one (.rp (.ints .i64 [(max (a.src) (a.dst))]) 0 0), .one (.rp (.ints .i64 [(min (a.src) (a.dst))]) 0 0), .one (.rp (.ints .i64 [n]) 0 0)], .one (.int .i64 (mrgI n a ((List.getD r k default).src))), [], []⟩), (8, ⟨[.one (.int .i64 ((List.getD r k default).dst)), .one (.rp (.ints .i64 [(max (a.src) (a.dst))]) 0 0), .one (.rp (.ints .i64 [(min (a.src) (a.dst))]) 0 0), .one (.rp (.ints .i64 [n]) 0 0)], .one (.int .i64 (mrgI n a ((List.getD r k default).dst))), [], []⟩)] false [[], [], [], [2], [1, 2, 3], [], [], [6], [1, 2, 3, 4, 5, 6, 7], [1, 2, 3, 4, 5, 6, 7, 8], [1, 2, 3, 4, 5, 6, 7, 8, 9], [0, 1, 2, 3, 4, 5, 6, 7, 8, 9, 10], [0, 1, 2, 3, 4, 5, 6, 7, 8, 9, 10, 11]] 11 [2, 3, 9, 12, 13, 48, 49, 50] [5012] [(0, []), (1, []), (2, []), (3, [(0 < 1)]), (4, [(true = true → (AllP [] ∧ [.one (.int .i64 ((List.getD r k default).src)), .one (.rp (.ints .i64 [(max (a.src) (a.dst))]) 0 0), .one (.rp (.ints .i64 [(min (a.src) (a.dst))]) 0 0), .one (.rp (.ints .i64 [n]) 0 0)] = ([.one (.int .i64 ((List.getD r k default).src)), .one (.rp (.ints .i64 [(max (a.src) (a.dst))]) 0 0), .one (.rp (.ints .i64 [(min (a.src) (a.dst))]) 0 0), .one (.rp (.ints .i64 [n]) 0 0)] : List AV) ∧ ACall Try.prog 57 [.one (.int .i64 ((List.getD r k default).src)), .one (.rp (.ints .i64 [(max (a.src) (a.dst))]) 0 0), .one (.rp (.ints .i64 [(min (a.src) (a.dst))]) 0 0), .one (.rp (.ints .i64 [n]) 0 0)] [] (fun ov oh => ov = .one (.int .i64 (mrgI n a ((List.getD r k default).src))) ∧ oh = [])))]), (5, []), (6, []), (7, [(0 < 1)]), (8, [(true = true → (AllP [] ∧ [.one (.int .i64 ((List.getD r k default).dst)), .one (.rp (.ints .i64 [(max (a.src) (a.dst))]) 0 0), .one (.rp (.ints .i64 [(min (a.src) (a.dst))]) 0 0), .one (.rp (.ints .i64 [n]) 0 0)] = ([.one (.int .i64 ((List.getD r k default).dst)), .one (.rp (.ints .i64 [(max (a.src) (a.dst))]) 0 0), .one (.rp (.ints .i64 [(min (a.src) (a.dst))]) 0 0), .one (.rp (.ints .i64 [n]) 0 0)] : List AV) ∧ ACall Try.prog 57 [.one (.int .i64 ((List.getD r k default).dst)), .one (.rp (.ints .i64 [(max (a.src) (a.dst))]) 0 0), .one (.rp (.ints .i64 [(min (a.src) (a.dst))]) 0 0), .one (.rp (.ints .i64 [n]) 0 0)] [] (fun ov oh => ov = .one (.int .i64 (mrgI n a ((List.getD r k default).dst))) ∧ oh = [])))]), (9, []), (10, [])] [(11, [(oAs.length = oAs.length), ((oAs.length + 1) * 24 ≤ 140737488355328), ((oAs.length + 1) ≤ 9223372036854775807)]), (12, [])] 1 ⟨77, [(2, .one (.int .i64 q)), (3, .one (.rp (.ints .i64 [n]) 0 0)), (9, .one (.ro (.arcs r))), (12, .one (.rw 5012 0 (oAs.length + 1))), (13, .one (.fn 57 [(.rp (.ints .i64 [(max (a.src) (a.dst))]) 0 0), (.rp (.ints .i64 [(min (a.src) (a.dst))]) 0 0), (.rp (.ints .i64 [n]) 0 0)])), (48, .one (.ro (.arcs r))), (49, .one (.int .i64 ((r.length : Nat) : Int))), (50, .one (.int .i64 (k : Int)))], [(5012, .flat (.arcs (oAs ++ [⟨(mrgI n a ((List.getD r k default).src)), (mrgI n a ((List.getD r k default).dst)), 0⟩])))]⟩ (by kernel_rfl) (by kernel_rfl) hT (by kernel_rfl) (by kernel_rfl) ⟨trivial, trivial, trivial, ⟨(by decide), trivial⟩, ⟨(fun _ => ⟨trivial, rfl, count_at n a ((List.getD r k default).src) (by omega) (by omega)⟩), trivial⟩, trivial, trivial, ⟨(by decide), trivial⟩, ⟨(fun _ => ⟨trivial, rfl, count_at n a ((List.getD r k default).dst) (by omega) (by omega)⟩), trivial⟩, trivial, trivial, trivial⟩ ⟨⟨(by omega), (by omega), (by omega), trivial⟩, trivial, trivial⟩ ?_
        refine awp_run [2, 3, 9, 12, 13, 48, 49, 50] [5012] [(-9223372036854775808 ≤ (((k + 1) : Nat) : Int) ∧ (((k + 1) : Nat) : Int) ≤ 9223372036854775807)] ⟨77, [(2, .one (.int .i64 q)), (3, .one (.rp (.ints .i64 [n]) 0 0)), (9, .one (.ro (.arcs r))), (12, .one (.rw 5012 0 (oAs.length + 1))), (13, .one (.fn 57 [(.rp (.ints .i64 [(max (a.src) (a.dst))]) 0 0), (.rp (.ints .i64 [(min (a.src) (a.dst))]) 0 0), (.rp (.ints .i64 [n]) 0 0)])), (48, .one (.ro (.arcs r))), (49, .one (.int .i64 ((r.length : Nat) : Int))), (50, .one (.int .i64 (((k + 1) : Nat) : Int)))], [(5012, .flat (.arcs (oAs ++ [⟨(mrgI n a ((List.getD r k default).src)), (mrgI n a ((List.getD r k default).dst)), 0⟩])))]⟩ hT (by kernel_rfl) ⟨(by omega), trivial⟩ ?_
        refine loop_end _ ?_ ⟨(k + 1), (oAs ++ [⟨(mrgI n a ((List.getD r k default).src)), (mrgI n a ((List.getD r k default).dst)), 0⟩]), ⟨(by omega), (by rw [htk, List.map_append, ho]; rfl), rfl⟩, (by first | (simp only [lens]; done) | (simp only [Nat.zero_add]; done) | simp only [lens, Nat.zero_add])⟩
        omega
      ·
        try simp only [bs] at c15
        have hoe : oAs = (List.map (mrg n a) r) := by rw [ho, List.take_of_length_le (by omega)]
        have hb1 := cnt_i64 hq0 hq1 (k := m) (by omega) (n := n) (es := r) (by omega)
        have hb2 := cnt_i64 hq0 hq1 (k := m) (by omega) (n := n - 1) (es := (List.map (mrg n a) r)) (by omega)
        refine awp_exit ?_
        refine awp_weak (awk_seal 5012 (s' := ⟨77, [(2, .one (.int .i64 q)), (3, .one (.rp (.ints .i64 [n]) 0 0)), (9, .one (.ro (.arcs r))), (12, .one (.ro (.arcs (List.take oAs.length oAs)))), (13, .one (.fn 57 [(.rp (.ints .i64 [(max (a.src) (a.dst))]) 0 0), (.rp (.ints .i64 [(min (a.src) (a.dst))]) 0 0), (.rp (.ints .i64 [n]) 0 0)])), (48, .one (.ro (.arcs r))), (49, .one (.int .i64 ((r.length : Nat) : Int))), (50, .one (.int .i64 (k : Int))), (51, .one (.bool (decide ((k : Int) < ((r.length : Nat) : Int)))))], []⟩) (by kernel_rfl)) ?_
        rw [show (List.take oAs.length oAs) = oAs from List.take_of_length_le (by first | omega | simp)]
        rw [show oAs = (List.map (mrg n a) r) from hoe]
        refine awp_seq (awp_calm2 [(3, ⟨[.one (.int .i64 n), .one (.ro (.arcs r)), .one (.int .i64 q)], .one (.int .i64 (cnt q m n r)), [], []⟩), (8, ⟨[.one (.int .i64 (n - 1)), .one (.ro (.arcs (List.map (mrg n a) r))), .one (.int .i64 q)], .one (.int .i64 (cnt q m (n - 1) (List.map (mrg n a) r))), [], []⟩)] false [[], [], [], [0, 1, 2], [], [4], [], [], [0, 1, 2, 3, 4, 5, 6, 7], [0, 1, 2, 3, 4, 5, 6, 7, 8], [0, 1, 2, 3, 4, 5, 6, 7, 8, 9]] 11 [6] [] [(0, []), (1, []), (2, []), (3, [(true = true → (AllP [] ∧ [.one (.int .i64 n), .one (.ro (.arcs r)), .one (.int .i64 q)] = ([.one (.int .i64 n), .one (.ro (.arcs r)), .one (.int .i64 q)] : List AV) ∧ ACall Try.prog 31 [.one (.int .i64 n), .one (.ro (.arcs r)), .one (.int .i64 q)] [] (fun ov oh => ov = .one (.int .i64 (cnt q m n r)) ∧ oh = [])))]), (4, []), (5, [(-9223372036854775808 ≤ (n - 1) ∧ (n - 1) ≤ 9223372036854775807)]), (6, []), (7, []), (8, [(true = true → (AllP [] ∧ [.one (.int .i64 (n - 1)), .one (.ro (.arcs (List.map (mrg n a) r))), .one (.int .i64 q)] = ([.one (.int .i64 (n - 1)), .one (.ro (.arcs (List.map (mrg n a) r))), .one (.int .i64 q)] : List AV) ∧ ACall Try.prog 31 [.one (.int .i64 (n - 1)), .one (.ro (.arcs (List.map (mrg n a) r))), .one (.int .i64 q)] [] (fun ov oh => ov = .one (.int .i64 (cnt q m (n - 1) (List.map (mrg n a) r))) ∧ oh = [])))]), (9, [(-9223372036854775808 ≤ ((cnt q m n r) - (cnt q m (n - 1) (List.map (mrg n a) r))) ∧ ((cnt q m n r) - (cnt q m (n - 1) (List.map (mrg n a) r))) ≤ 9223372036854775807)]), (10, [])] [] 1 ⟨77, [(6, .one (.int .i64 ((cnt q m n r) - (cnt q m (n - 1) (List.map (mrg n a) r)))))], []⟩ (by kernel_rfl) (by kernel_rfl) hT (by kernel_rfl) (by kernel_rfl) ⟨trivial, trivial, trivial, ⟨(fun _ => ⟨trivial, rfl, ih n r hl (by omega) (by omega) hA'⟩), trivial⟩, trivial, ⟨(by omega), trivial⟩, trivial, trivial, ⟨(fun _ => ⟨trivial, rfl, ih (n - 1) (List.map (mrg n a) r) hl2 (by omega) (by omega) hmA⟩), trivial⟩, ⟨(by omega), trivial⟩, trivial, trivial⟩ trivial ?_)
        refine awp_ret ?_
        refine kRet.ret _ [] [] (.one (.int .i64 ((cnt q m n r) - (cnt q m (n - 1) (List.map (mrg n a) r))))) [] (by kernel_rfl) trivial ?_
        exact ⟨congrArg (fun x1 => (.one (.int .i64 x1) : AV)) (show ((cnt q m n r) - (cnt q m (n - 1) (List.map (mrg n a) r))) = (cnt q (m + 1) n (a :: r)) from by rw [cnt, if_neg c9]), rfl⟩
theorem colour_count (q : Int) (hq0 : 0 ≤ q) (hq1 : q ≤ 20) : ∀ (m : Nat) (n : Int) (l : List Arc), l.length = m → m ≤ 12 → 1 ≤ n → n ≤ 8 → InR n l → ACall Try.prog 31 [.one (.int .i64 n), .one (.ro (.arcs l)), .one (.int .i64 q)] [] (fun ov oh => ov = .one (.int .i64 (cnt q m n l)) ∧ oh = [])
  | 0, n, l, hl, _, h1, h8, _ => by
    obtain rfl : l = [] := List.eq_nil_of_length_eq_zero hl
    exact count0 q n h1 h8 hq0 hq1
  | m + 1, n, [], hl, _, _, _, _ => by cases hl
  | m + 1, n, a :: r, hl, hm, h1, h8, hA => count_step q m (fun n l hl h1 h8 hA => colour_count q hq0 hq1 m n l hl (by omega) h1 h8 hA) n a r (by simpa using hl) h1 h8 hA hq0 hq1 (by omega)
theorem colour_Count (n : Int) (es : List Arc) (q : Int) : ACall Try.prog 9 [.agg [(.int .i64 n), (.ro (.arcs es))], .one (.int .i64 q)] [] (fun ov oh => ov = .tup [(false, [(.int .i64 (okI (colErr n es q) (cnt q es.length n es)))]), (false, [(.int .i64 (colErr n es q))])] ∧ oh = []) := by
  refine acall_intro hT Try.func9 rfl (by kernel_rfl) rfl (by kernel_rfl) ?_
  refine awp_run_seq [1, 2] [102] [] ⟨33, [(1, .one (.int .i64 q)), (2, .one (.ptr 102 0 0))], [(102, .box 1 2 [(.int .i64 n), (.ro (.arcs es))])]⟩ hT (by kernel_rfl) trivial ?_
  refine awp_seq ?_
  refine awp_seq (awp_region ?_)
  refine aops_run 1 [1, 2, 7] [102] [(0 < 1)] ⟨33, [(1, .one (.int .i64 q)), (2, .one (.ptr 102 0 0)), (7, .agg [(.int .i64 n), (.ro (.arcs es))])], [(102, .box 1 2 [(.int .i64 n), (.ro (.arcs es))])]⟩ hT (by kernel_rfl) (by kernel_rfl) ⟨(by decide), trivial⟩ ?_
  refine aops_pure false ⟨true, [], 30, [.agg [(.int .i64 n), (.ro (.arcs es))]], []⟩ [.agg [(.int .i64 n), (.ro (.arcs es))]] (.one (.int .i64 (graphErr n es (-10000)))) ⟨33, [(1, .one (.int .i64 q)), (2, .one (.ptr 102 0 0)), (7, .agg [(.int .i64 n), (.ro (.arcs es))]), (8, .one (.int .i64 (graphErr n es (-10000))))], [(102, .box 1 2 [(.int .i64 n), (.ro (.arcs es))])]⟩ (by kernel_rfl) (by kernel_rfl) (fun _ => trivial) rfl (fun _ => graph_CheckLong n es) ?_
  refine aops_run 1 [1, 2, 6] [102] [] ⟨33, [(1, .one (.int .i64 q)), (2, .one (.ptr 102 0 0)), (6, .one (.int .i64 (graphErr n es (-10000))))], [(102, .box 1 2 [(.int .i64 n), (.ro (.arcs es))])]⟩ hT (by kernel_rfl) (by kernel_rfl) trivial ?_
  refine aops_end_seq (by kernel_rfl) ?_
  refine awp_run_seq [1, 2, 6, 10] [102] [] ⟨33, [(1, .one (.int .i64 q)), (2, .one (.ptr 102 0 0)), (6, .one (.int .i64 (graphErr n es (-10000)))), (10, .one (.bool (decide ((graphErr n es (-10000)) ≠ 0))))], [(102, .box 1 2 [(.int .i64 n), (.ro (.arcs es))])]⟩ hT (by kernel_rfl) trivial ?_
  refine awp_cond (b := (decide ((graphErr n es (-10000)) ≠ 0))) (by kernel_rfl) (fun c2 => ?_) (fun c2 => ?_)
  ·
    try simp only [bs] at c2
    have hC : (colErr n es q) = (graphErr n es (-10000)) := if_pos c2
    have hC0 : (colErr n es q) ≠ 0 := by rw [hC]; exact c2
    refine awp_run_seq [4, 5] [] [] ⟨33, [(4, .one (.int .i64 0)), (5, .one (.int .i64 (graphErr n es (-10000))))], []⟩ hT (by kernel_rfl) trivial ?_
    refine awp_ret ?_
    refine kRet.ret _ [] [] (.tup [(false, [(.int .i64 0)]), (false, [(.int .i64 (graphErr n es (-10000)))])]) [] (by kernel_rfl) trivial ?_
    exact ⟨by first | rw [show (okI (colErr n es q) (cnt q es.length n es)) = 0 from Eq.symm (by exact (okI_no _ hC0).symm), show (colErr n es q) = (graphErr n es (-10000)) from Eq.symm (by rw [hC])] | rw [show (okI (colErr n es q) (cnt q es.length n es)) = 0 from Eq.symm (by exact (okI_no _ hC0).symm)] | rw [show (colErr n es q) = (graphErr n es (-10000)) from Eq.symm (by rw [hC])], rfl⟩
  ·
    try simp only [bs] at c2
    have hE : (graphErr n es (-10000)) = 0 := by omega
    have hG := graphErr_ok hE
    have h1 := hG.n1
    have h2 := hG.n2
    have hA := hG.inR
    have hle := hG.len
    refine awp_skip ?_
    refine awp_seq ?_
    refine awp_run_seq [1, 2, 20] [102] [(0 < 1), ((!(decide ((8 : Int) < n))) = true → ((!(decide ((8 : Int) < n))) = true → (!(decide ((8 : Int) < n))) = true)), ((!(decide ((8 : Int) < n))) = true → (0 < 1)), ((!(decide ((8 : Int) < n))) = true → ((!(decide ((8 : Int) < n))) = true → (!(decide ((8 : Int) < n))) = true)), ((!(decide ((8 : Int) < n))) = true → ((!(decide ((8 : Int) < n))) = true → (!(decide ((8 : Int) < n))) = true)), ((!(decide ((8 : Int) < n))) = true → (!(decide ((8 : Int) < n))) = true)] ⟨33, [(1, .one (.int .i64 q)), (2, .one (.ptr 102 0 0)), (20, .one (.bool ((decide ((8 : Int) < n)) || (decide ((12 : Int) < ((es.length : Nat) : Int))))))], [(102, .box 1 2 [(.int .i64 n), (.ro (.arcs es))])]⟩ hT (by kernel_rfl) ⟨(by decide), (by intro hg; first | exact hg | skip; (try simp only [bs] at hg ⊢); first | exact hg | first | omega | (simp only [lens]; omega) | (simp only [Bool.cond_decide]; omega) | (simp only [nadd_eq]; omega) | grind), (by intro hg; first | exact hg | skip; (try simp only [bs] at hg); first | exact hg | first | omega | (simp only [lens]; omega) | (simp only [Bool.cond_decide]; omega) | (simp only [nadd_eq]; omega) | grind), (by intro hg; first | exact hg | skip; (try simp only [bs] at hg ⊢); first | exact hg | first | omega | (simp only [lens]; omega) | (simp only [Bool.cond_decide]; omega) | (simp only [nadd_eq]; omega) | grind), (by intro hg; first | exact hg | skip; (try simp only [bs] at hg ⊢); first | exact hg | first | omega | (simp only [lens]; omega) | (simp only [Bool.cond_decide]; omega) | (simp only [nadd_eq]; omega) | grind), (fun h => h), trivial⟩ ?_
    refine awp_cond (b := ((decide ((8 : Int) < n)) || (decide ((12 : Int) < ((es.length : Nat) : Int))))) (by kernel_rfl) (fun c4 => ?_) (fun c4 => ?_)
    ·
      try simp only [bs] at c4
      have hC : (colErr n es q) = 2 := by rw [colErr, if_neg (by omega), if_pos (by omega)]
      have hC0 : (colErr n es q) ≠ 0 := by omega
      refine awp_run_seq [4, 5] [] [] ⟨33, [(4, .one (.int .i64 0)), (5, .one (.int .i64 2))], []⟩ hT (by kernel_rfl) trivial ?_
      refine awp_ret ?_
      refine kRet.ret _ [] [] (.tup [(false, [(.int .i64 0)]), (false, [(.int .i64 2)])]) [] (by kernel_rfl) trivial ?_
      exact ⟨by first | rw [show (okI (colErr n es q) (cnt q es.length n es)) = 0 from Eq.symm (by exact (okI_no _ hC0).symm), show (colErr n es q) = 2 from Eq.symm (by rw [hC])] | rw [show (okI (colErr n es q) (cnt q es.length n es)) = 0 from Eq.symm (by exact (okI_no _ hC0).symm)] | rw [show (colErr n es q) = 2 from Eq.symm (by rw [hC])], rfl⟩
    ·
      try simp only [bs] at c4
      refine awp_skip ?_
      refine awp_seq ?_
      refine awp_run_seq [1, 2, 26] [102] [((!(decide (q < 0))) = true → ((!(decide (q < 0))) = true → (!(decide (q < 0))) = true)), ((!(decide (q < 0))) = true → (!(decide (q < 0))) = true)] ⟨33, [(1, .one (.int .i64 q)), (2, .one (.ptr 102 0 0)), (26, .one (.bool ((decide (q < 0)) || (decide ((20 : Int) < q)))))], [(102, .box 1 2 [(.int .i64 n), (.ro (.arcs es))])]⟩ hT (by kernel_rfl) ⟨(by intro hg; first | exact hg | skip; (try simp only [bs] at hg ⊢); first | exact hg | first | omega | (simp only [lens]; omega) | (simp only [Bool.cond_decide]; omega) | (simp only [nadd_eq]; omega) | grind), (fun h => h), trivial⟩ ?_
      refine awp_cond (b := ((decide (q < 0)) || (decide ((20 : Int) < q)))) (by kernel_rfl) (fun c6 => ?_) (fun c6 => ?_)
      ·
        try simp only [bs] at c6
        have hC : (colErr n es q) = 1 := by rw [colErr, if_neg (by omega), if_neg (by omega), if_pos (by omega)]
        have hC0 : (colErr n es q) ≠ 0 := by omega
        refine awp_run_seq [4, 5] [] [] ⟨33, [(4, .one (.int .i64 0)), (5, .one (.int .i64 1))], []⟩ hT (by kernel_rfl) trivial ?_
        refine awp_ret ?_
        refine kRet.ret _ [] [] (.tup [(false, [(.int .i64 0)]), (false, [(.int .i64 1)])]) [] (by kernel_rfl) trivial ?_
        exact ⟨by first | rw [show (okI (colErr n es q) (cnt q es.length n es)) = 0 from Eq.symm (by exact (okI_no _ hC0).symm), show (colErr n es q) = 1 from Eq.symm (by rw [hC])] | rw [show (okI (colErr n es q) (cnt q es.length n es)) = 0 from Eq.symm (by exact (okI_no _ hC0).symm)] | rw [show (colErr n es q) = 1 from Eq.symm (by rw [hC])], rfl⟩
      ·
        try simp only [bs] at c6
        have hC : (colErr n es q) = 0 := by rw [colErr, if_neg (by omega), if_neg (by omega), if_neg (by omega)]
        refine awp_skip ?_
        refine awp_seq (awp_region ?_)
        refine aops_run 5 [28, 30, 31] [] [(0 < 1), (0 < 1)] ⟨33, [(28, .one (.int .i64 n)), (30, .one (.ro (.arcs es))), (31, .one (.int .i64 q))], []⟩ hT (by kernel_rfl) (by kernel_rfl) ⟨(by decide), (by decide), trivial⟩ ?_
        refine aops_pure false ⟨true, [], 31, [.one (.int .i64 n), .one (.ro (.arcs es)), .one (.int .i64 q)], []⟩ [.one (.int .i64 n), .one (.ro (.arcs es)), .one (.int .i64 q)] (.one (.int .i64 (cnt q es.length n es))) ⟨33, [(28, .one (.int .i64 n)), (30, .one (.ro (.arcs es))), (31, .one (.int .i64 q)), (32, .one (.int .i64 (cnt q es.length n es)))], []⟩ (by kernel_rfl) (by kernel_rfl) (fun _ => trivial) rfl (fun _ => colour_count q (by omega) (by omega) es.length n es rfl (by omega) (by omega) (by omega) hA) ?_
        refine aops_run 2 [4, 5] [] [] ⟨33, [(4, .one (.int .i64 (cnt q es.length n es))), (5, .one (.int .i64 0))], []⟩ hT (by kernel_rfl) (by kernel_rfl) trivial ?_
        refine aops_end_seq (by kernel_rfl) ?_
        refine awp_ret ?_
        refine kRet.ret _ [] [] (.tup [(false, [(.int .i64 (cnt q es.length n es))]), (false, [(.int .i64 0)])]) [] (by kernel_rfl) trivial ?_
        exact ⟨by first | rw [show (okI (colErr n es q) (cnt q es.length n es)) = (cnt q es.length n es) from Eq.symm (by rw [okI_ok _ hC]), show (colErr n es q) = 0 from Eq.symm (by rw [hC])] | rw [show (okI (colErr n es q) (cnt q es.length n es)) = (cnt q es.length n es) from Eq.symm (by rw [okI_ok _ hC])] | rw [show (colErr n es q) = 0 from Eq.symm (by rw [hC])], rfl⟩
end Go.Ab
