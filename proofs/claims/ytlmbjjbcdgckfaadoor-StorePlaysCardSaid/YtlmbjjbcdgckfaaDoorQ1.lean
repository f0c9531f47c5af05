/- Parts of the proof, without conditions. -/
import Derived.Test.YtlmbjjbcdgckfaaDoorKk
import Derived.Test.YtlmbjjbcdgckfaaDoorTab
import Derived.Test.YtlmbjjbcdgckfaaDoorQ0
set_option maxRecDepth 100000
namespace Go.Ab
open Go Go.Proofs
abbrev ZAG (g : Bool) : Prop := g = true → g = true
abbrev ZAL (g : Bool) : Prop := g = true → (0 < 1)
abbrev ZAT (g : Bool) : Prop := g = true → (g = true → g = true)
abbrev ZAb0 (a0 : List Int) (a1) := ((!(decide ((List.getD a0 a1 0) < 0))) : Bool)
abbrev ZAb1 (a0 : List Int) (a1) (a2 : Int) := (((decide ((List.getD a0 a1 0) ≠ 0)) && (decide ((a1 : Int) ≠ a2))) : Bool)
abbrev ZA4 (a0 : Int) (a1 : Int) (a2 : Int) (a3 : List Arc) := ([(.i a0), (.i a1), (.i a2), (.ro (.arcs a3))] : List V1)
abbrev ZA0 (a0 : Int) (a1 : Int) (a2 : Int) (a3 : List Arc) := ((102, .box 1 4 (ZA4 a0 a1 a2 a3)) : Nat × Obj)
abbrev ZA1 (a0 : List Int) := ((64, .agg [(.i (List.getD a0 0 0)), (.i (List.getD a0 1 0)), (.i (List.getD a0 2 0)), (.i (List.getD a0 3 0)), (.i (List.getD a0 4 0)), (.i (List.getD a0 5 0)), (.i (List.getD a0 6 0)), (.i (List.getD a0 7 0)), (.i (List.getD a0 8 0)), (.i (List.getD a0 9 0)), (.i (List.getD a0 10 0)), (.i (List.getD a0 11 0))]) : Nat × AV)
abbrev ZA2 (a0 : List Int) := ((1, .one (.ro (.ints .i64 a0))) : Nat × AV)
abbrev ZA3 (a0 : List Arc) := ((18, .i ((a0.length : Nat) : Int)) : Nat × AV)
abbrev ZA5 (a0 : List Int) (a1 : List Arc) (a2) (a3 : List Int) := ((106, .fi (List.set (List.set a0 (Int.toNat ((List.getD a1 a2 default).src)) ((List.getD a0 (Int.toNat ((List.getD a1 a2 default).src)) 0) - (List.getD a3 a2 0))) (Int.toNat ((List.getD a1 a2 default).dst)) ((List.getD (List.set a0 (Int.toNat ((List.getD a1 a2 default).src)) ((List.getD a0 (Int.toNat ((List.getD a1 a2 default).src)) 0) - (List.getD a3 a2 0))) (Int.toNat ((List.getD a1 a2 default).dst)) 0) + (List.getD a3 a2 0)))) : Nat × Obj)
abbrev ZA6 (a0 : List Int) := ((23, .i ((a0.length : Nat) : Int)) : Nat × AV)
abbrev ZA7 (a0 : List Arc) (a1) := ((109, .box 1 3 [(.i ((List.getD a0 a1 default).src)), (.i ((List.getD a0 a1 default).dst)), (.i ((List.getD a0 a1 default).cap))]) : Nat × Obj)
abbrev ZA8 (a0) := ((19, .i (a0 : Int)) : Nat × AV)
abbrev ZA9 (a0 : List Int) := ((22, .one (.ro (.ints .i64 a0))) : Nat × AV)
abbrev ZA10 (a0) := ((.i (((a0 + 1) : Nat) : Int)) : V1)
abbrev ZA11 (a0) := ((24, .i (a0 : Int)) : Nat × AV)
abbrev ZA12 (a0) := ((8, .i (a0 : Int)) : Nat × AV)
theorem flow_check (n s t : Int) (es : List Arc) (f : List Int) : ACall Tryd.prog 59 [.agg (ZA4 n s t es), .one (.ro (.ints .i64 f))] [] (fun ov oh => ov = .i (flowErr n s t es f) ∧ oh = []) := by
 refine acall_intro hT Tryd.func59 rfl (by kernel_rfl) rfl (by kernel_rfl) ?_
 refine kq [] ⟨84, [(ZA2 f), (2, .p 102)], [(ZA0 n s t es)]⟩ hT (by kernel_rfl) trivial ?_
 refine awp_seq ?_
 refine awp_seq (awp_region ?_)
 refine ko 1 [(0 < 1)] ⟨84, [(ZA2 f), (2, .p 102), (11, .agg (ZA4 n s t es))], [(ZA0 n s t es)]⟩ hT (by kernel_rfl) (by kernel_rfl) ⟨(by decide), trivial⟩ ?_
 refine aops_pure false ⟨true, [], 13, [.agg (ZA4 n s t es)], []⟩ [.agg (ZA4 n s t es)] (.i (netErr n s t es)) ⟨84, [(ZA2 f), (2, .p 102), (11, .agg (ZA4 n s t es)), (12, .i (netErr n s t es))], [(ZA0 n s t es)]⟩ (by kernel_rfl) (by kernel_rfl) (fun _ => trivial) rfl (fun _ => graph_CheckNet n s t es) ?_
 refine ko 1 [] ⟨84, [(ZA2 f), (2, .p 102), (5, .i (netErr n s t es))], [(ZA0 n s t es)]⟩ hT (by kernel_rfl) (by kernel_rfl) trivial ?_
 refine aops_end_seq (by kernel_rfl) ?_
 refine kq [] ⟨84, [(ZA2 f), (2, .p 102), (5, .i (netErr n s t es)), (14, .one (.bool (decide ((netErr n s t es) ≠ 0))))], [(ZA0 n s t es)]⟩ hT (by kernel_rfl) trivial ?_
 refine awp_cond (b := (decide ((netErr n s t es) ≠ 0))) (by kernel_rfl) (fun c2 => ?_) (fun c2 => ?_)
 ·
  try simp only [bs] at c2
  refine kq [] ⟨84, [(4, .i (netErr n s t es))], []⟩ hT (by kernel_rfl) trivial ?_
  refine awp_ret ?_
  refine kRet.ret _ [] [] (.i (netErr n s t es)) [] (by kernel_rfl) trivial ?_
  exact ⟨congrArg (fun x1 => (.i x1 : AV)) (show (netErr n s t es) = (flowErr n s t es f) from by rw [flowErr, if_pos c2]), rfl⟩
 ·
  try simp only [bs] at c2
  have hE : netErr n s t es = 0 := by omega
  have hok := netErr_ok hE
  have h1 := hok.n1
  have h2 := hok.n2
  have h3 := hok.len
  have h4 := hok.s0
  have h5 := hok.s1
  have h6 := hok.t0
  have h7 := hok.t1
  refine awp_skip ?_
  refine awp_seq ?_
  refine kq [(0 < 1)] ⟨84, [(ZA2 f), (2, .p 102), (21, .one (.bool (decide (((f.length : Nat) : Int) ≠ ((es.length : Nat) : Int)))))], [(ZA0 n s t es)]⟩ hT (by kernel_rfl) ⟨(by decide), trivial⟩ ?_
  refine awp_cond (b := (decide (((f.length : Nat) : Int) ≠ ((es.length : Nat) : Int)))) (by kernel_rfl) (fun c4 => ?_) (fun c4 => ?_)
  ·
   try simp only [bs] at c4
   refine kq [] ⟨84, [(4, .i 3)], []⟩ hT (by kernel_rfl) trivial ?_
   refine awp_ret ?_
   refine kRet.ret _ [] [] (.i 3) [] (by kernel_rfl) trivial ?_
   exact ⟨congrArg (fun x1 => (.i x1 : AV)) (show 3 = (flowErr n s t es f) from by rw [flowErr, if_neg c2, if_pos (by omega)]), rfl⟩
  ·
   try simp only [bs] at c4
   have hlen : f.length = es.length := by omega
   refine awp_skip ?_
   refine kq [] ⟨84, [(ZA2 f), (2, .p 102), (6, .p 106)], [(ZA0 n s t es), (106, .fi [0, 0, 0, 0, 0, 0, 0, 0, 0, 0, 0, 0])]⟩ hT (by kernel_rfl) trivial ?_
   refine awp_seq ?_
   refine kq [] ⟨84, [(2, .p 102), (6, .p 106), (ZA9 f), (ZA6 f), (24, .i 0)], [(ZA0 n s t es), (106, .fi [0, 0, 0, 0, 0, 0, 0, 0, 0, 0, 0, 0])]⟩ hT (by kernel_rfl) trivial ?_
   refine awp_block ?_
   refine awp_loop (I := fun κ σ => ∃ (i : Nat) (m : List Int), ((i ≤ es.length) ∧ (over (es.drop i) (f.drop i) = over es f) ∧ (m.length = 12) ∧ (∀ k, k < 12 → m.getD k 0 = gone (es.drop i) (f.drop i) (k : Int) - gone es f (k : Int)) ∧ (∀ k, -(10000 * (i : Int)) ≤ m.getD k 0 ∧ m.getD k 0 ≤ 10000 * (i : Int)) ∧ es.length - i = κ) ∧ σ = ⟨84, [(2, .p 102), (6, .p 106), (ZA9 f), (ZA6 f), (ZA11 i)], [(ZA0 n s t es), (106, .fi m)]⟩) _ ⟨0, [0, 0, 0, 0, 0, 0, 0, 0, 0, 0, 0, 0], ⟨(by omega), (by rfl), (by rfl), (by intro k hk; rw [getD_zeros12]; simp), (by intro k; rw [getD_zeros12]; simp), rfl⟩, (by kernel_rfl)⟩ ?_
   rintro κ _ ⟨i, m, ⟨hi, ho, hm, hg, hb, rfl⟩, rfl⟩
   refine kq [] ⟨84, [(2, .p 102), (6, .p 106), (ZA9 f), (ZA6 f), (ZA11 i), (25, .one (.bool (decide ((i : Int) < ((f.length : Nat) : Int)))))], [(ZA0 n s t es), (106, .fi m)]⟩ hT (by kernel_rfl) trivial ?_
   refine awp_seq ?_
   refine awp_cond (b := (decide ((i : Int) < ((f.length : Nat) : Int)))) (by kernel_rfl) (fun c8 => ?_) (fun c8 => ?_)
   ·
    try simp only [bs] at c8
    have ci : i < es.length := by omega
    have hod := over_drop (i := i) (f := f) ci hlen
    rw [ho] at hod
    obtain ⟨a1, a2, a3, a4, a5, a6⟩ := hok.at_ ci
    have h12 : n ≤ 12 := h2
    refine awp_skip ?_
    refine awp_seq ?_
    refine awp_block ?_
    refine kq [((0 : Int) ≤ (i : Int)), ((i : Int) < ((f.length : Nat) : Int))] ⟨84, [(2, .p 102), (6, .p 106), (7, .i (i : Int)), (8, .i (List.getD f i 0)), (ZA9 f), (ZA6 f), (ZA11 i)], [(ZA0 n s t es), (106, .fi m)]⟩ hT (by kernel_rfl) ⟨(by omega), (by omega), trivial⟩ ?_
    refine awp_seq ?_
    refine kq [(ZAT (ZAb0 f i)), (ZAL (ZAb0 f i)), (ZAT (ZAb0 f i)), (ZAT (ZAb0 f i)), ((ZAb0 f i) = true → ((0 : Int) ≤ (i : Int))), ((ZAb0 f i) = true → ((i : Int) < ((es.length : Nat) : Int))), (ZAT (ZAb0 f i)), (ZAT (ZAb0 f i)), (ZAT (ZAb0 f i)), (ZAT (ZAb0 f i)), (ZAG (ZAb0 f i))] ⟨84, [(2, .p 102), (6, .p 106), (7, .i (i : Int)), (8, .i (List.getD f i 0)), (ZA9 f), (ZA6 f), (ZA11 i), (40, .one (.bool ((decide ((List.getD f i 0) < 0)) || (decide (((List.getD es i default).cap) < (List.getD f i 0))))))], [(ZA0 n s t es), (106, .fi m)]⟩ hT (by kernel_rfl) ⟨(fun _ h => h), (fun _ => by decide), (fun _ h => h), (fun _ h => h), (by intro hg; simp only [bs, ZAb0] at hg; omega), (by intro hg; simp only [bs, ZAb0] at hg; omega), (fun _ h => h), (fun _ h => h), (fun _ h => h), (fun _ h => h), id, trivial⟩ ?_
    refine awp_cond (b := ((decide ((List.getD f i 0) < 0)) || (decide (((List.getD es i default).cap) < (List.getD f i 0))))) (by kernel_rfl) (fun c10 => ?_) (fun c10 => ?_)
    ·
     try simp only [bs] at c10
     have hov : over es f = true := by rw [hod]; simp only [bs]; omega
     refine kq [] ⟨84, [(4, .i 7)], []⟩ hT (by kernel_rfl) trivial ?_
     refine awp_ret ?_
     refine kRet.ret _ [] [] (.i 7) [] (by kernel_rfl) trivial ?_
     exact ⟨congrArg (fun x1 => (.i x1 : AV)) (show 7 = (flowErr n s t es f) from by rw [flowErr, if_neg c2, if_neg (by omega), if_pos hov]), rfl⟩
    ·
     try simp only [bs] at c10
     have hstep : over (es.drop (i + 1)) (f.drop (i + 1)) = over es f := by rw [hod]; simp only [show decide (f.getD i 0 < 0) = false from by simp only [bs]; omega, show decide ((es.getD i default).cap < f.getD i 0) = false from by simp only [bs]; omega, Bool.false_or]
     have x0 : 0 ≤ f.getD i 0 := by omega
     have x1 : f.getD i 0 ≤ 10000 := by omega
     have hb1 := hb (es.getD i default).src.toNat
     have hb2 : -(10000 * (i : Int)) - 10000 ≤ (m.set (es.getD i default).src.toNat (m.getD (es.getD i default).src.toNat 0 - f.getD i 0)).getD (es.getD i default).dst.toNat 0 ∧ (m.set (es.getD i default).src.toNat (m.getD (es.getD i default).src.toNat 0 - f.getD i 0)).getD (es.getD i default).dst.toNat 0 ≤ 10000 * (i : Int) + 10000 := by
      rw [set1_get _ _ _ _ (by omega)]
      have := hb (es.getD i default).dst.toNat
      split <;> omega
     refine awp_skip ?_
     refine kq [(0 < 1), ((0 : Int) ≤ (i : Int)), ((i : Int) < ((es.length : Nat) : Int)), ((0 : Int) ≤ ((List.getD es i default).src)), (((List.getD es i default).src) < 12), ((Int.toNat ((List.getD es i default).src)) < m.length), (-9223372036854775808 ≤ ((List.getD m (Int.toNat ((List.getD es i default).src)) 0) - (List.getD f i 0)) ∧ ((List.getD m (Int.toNat ((List.getD es i default).src)) 0) - (List.getD f i 0)) ≤ 9223372036854775807), ((0 : Int) ≤ ((List.getD es i default).src)), (((List.getD es i default).src) < 12), ((Int.toNat ((List.getD es i default).src)) < m.length)] ⟨84, [(2, .p 102), (6, .p 106), (7, .i (i : Int)), (8, .i (List.getD f i 0)), (ZA9 f), (ZA6 f), (ZA11 i)], [(ZA0 n s t es), (106, .fi (List.set m (Int.toNat ((List.getD es i default).src)) ((List.getD m (Int.toNat ((List.getD es i default).src)) 0) - (List.getD f i 0))))]⟩ hT (by kernel_rfl) ⟨(by decide), (by omega), (by omega), (by omega), (by omega), (by omega), (by omega), (by omega), (by omega), (by omega), trivial⟩ ?_
     refine kr [(0 < 1), ((0 : Int) ≤ (i : Int)), ((i : Int) < ((es.length : Nat) : Int)), ((0 : Int) ≤ ((List.getD es i default).dst)), (((List.getD es i default).dst) < 12), ((Int.toNat ((List.getD es i default).dst)) < (List.length (List.set m (Int.toNat ((List.getD es i default).src)) ((List.getD m (Int.toNat ((List.getD es i default).src)) 0) - (List.getD f i 0))))), (-9223372036854775808 ≤ ((List.getD (List.set m (Int.toNat ((List.getD es i default).src)) ((List.getD m (Int.toNat ((List.getD es i default).src)) 0) - (List.getD f i 0))) (Int.toNat ((List.getD es i default).dst)) 0) + (List.getD f i 0)) ∧ ((List.getD (List.set m (Int.toNat ((List.getD es i default).src)) ((List.getD m (Int.toNat ((List.getD es i default).src)) 0) - (List.getD f i 0))) (Int.toNat ((List.getD es i default).dst)) 0) + (List.getD f i 0)) ≤ 9223372036854775807), ((0 : Int) ≤ ((List.getD es i default).dst)), (((List.getD es i default).dst) < 12), ((Int.toNat ((List.getD es i default).dst)) < (List.length (List.set m (Int.toNat ((List.getD es i default).src)) ((List.getD m (Int.toNat ((List.getD es i default).src)) 0) - (List.getD f i 0)))))] ⟨84, [(2, .p 102), (6, .p 106), (ZA9 f), (ZA6 f), (ZA11 i)], [(ZA0 n s t es), (ZA5 m es i f)]⟩ hT (by kernel_rfl) ⟨(by decide), (by first | omega | (simp only [lens]; omega) | (simp only [Bool.cond_decide]; omega) | (simp only [nadd_eq]; omega)), (by first | omega | (simp only [lens]; omega) | (simp only [Bool.cond_decide]; omega) | (simp only [nadd_eq]; omega)), (by first | omega | (simp only [lens]; omega) | (simp only [Bool.cond_decide]; omega) | (simp only [nadd_eq]; omega)), (by first | omega | (simp only [lens]; omega) | (simp only [Bool.cond_decide]; omega) | (simp only [nadd_eq]; omega)), (by first | omega | (simp only [lens]; omega) | (simp only [Bool.cond_decide]; omega) | (simp only [nadd_eq]; omega)), (by first | omega | (simp only [lens]; omega) | (simp only [Bool.cond_decide]; omega) | (simp only [nadd_eq]; omega)), (by first | omega | (simp only [lens]; omega) | (simp only [Bool.cond_decide]; omega) | (simp only [nadd_eq]; omega)), (by first | omega | (simp only [lens]; omega) | (simp only [Bool.cond_decide]; omega) | (simp only [nadd_eq]; omega)), (by first | omega | (simp only [lens]; omega) | (simp only [Bool.cond_decide]; omega) | (simp only [nadd_eq]; omega)), trivial⟩ ?_
     refine kr [(-9223372036854775808 ≤ (((i + 1) : Nat) : Int) ∧ (((i + 1) : Nat) : Int) ≤ 9223372036854775807)] ⟨84, [(2, .p 102), (6, .p 106), (ZA9 f), (ZA6 f), (24, .one (ZA10 i))], [(ZA0 n s t es), (ZA5 m es i f)]⟩ hT (by kernel_rfl) ⟨(by omega), trivial⟩ ?_
     refine loop_end _ ?_ ⟨(i + 1), (List.set (List.set m (Int.toNat ((List.getD es i default).src)) ((List.getD m (Int.toNat ((List.getD es i default).src)) 0) - (List.getD f i 0))) (Int.toNat ((List.getD es i default).dst)) ((List.getD (List.set m (Int.toNat ((List.getD es i default).src)) ((List.getD m (Int.toNat ((List.getD es i default).src)) 0) - (List.getD f i 0))) (Int.toNat ((List.getD es i default).dst)) 0) + (List.getD f i 0))), ⟨(by omega), (by exact hstep), (by simp only [lens]; exact hm), (by exact check_step hm h12 hlen ci a1 a2 a3 a4 hg), (by exact check_bound hm a1 (by omega) a3 (by omega) x0 x1 hb), rfl⟩, (by kernel_rfl)⟩
     omega
   ·
    try simp only [bs] at c8
    have hov : over es f = false := by rw [← ho]; exact over_end (by omega)
    have hgm : ∀ k, k < 12 → m.getD k 0 = - gone es f (k : Int) := fun k hk => by rw [hg k hk, gone_end _ (by omega)]; omega
    refine awp_exit ?_
    refine awp_seq ?_
    refine kq [(12 ≤ m.length), (0 = 0)] ⟨84, [(2, .p 102), (ZA1 m), (65, .i 0)], [(ZA0 n s t es)]⟩ hT (by kernel_rfl) ⟨(by omega), (by decide), trivial⟩ ?_
    refine awp_block ?_
    refine awp_loop (I := fun κ σ => ∃ (k : Nat), ((k ≤ 12) ∧ (∀ j, j < k → (j : Int) ≠ s → (j : Int) ≠ t → m.getD j 0 = 0) ∧ 12 - k = κ) ∧ σ = ⟨84, [(2, .p 102), (ZA1 m), (65, .i (k : Int))], [(ZA0 n s t es)]⟩) _ ⟨0, ⟨(by omega), (by intro j hj; omega), rfl⟩, (by kernel_rfl)⟩ ?_
    rintro κ _ ⟨k, ⟨hk, hl, rfl⟩, rfl⟩
    refine kq [] ⟨84, [(2, .p 102), (ZA1 m), (65, .i (k : Int)), (66, .one (.bool (decide ((k : Int) < 12))))], [(ZA0 n s t es)]⟩ hT (by kernel_rfl) trivial ?_
    refine awp_seq ?_
    refine awp_cond (b := (decide ((k : Int) < 12))) (by kernel_rfl) (fun c16 => ?_) (fun c16 => ?_)
    ·
     try simp only [bs] at c16
     refine awp_skip ?_
     refine awp_seq ?_
     refine awp_block ?_
     refine kq [((0 : Int) ≤ (k : Int)), ((k : Int) < 12), ((k : Int) < 12)] ⟨84, [(2, .p 102), (9, .i (k : Int)), (10, .i (List.getD [(List.getD m 0 0), (List.getD m 1 0), (List.getD m 2 0), (List.getD m 3 0), (List.getD m 4 0), (List.getD m 5 0), (List.getD m 6 0), (List.getD m 7 0), (List.getD m 8 0), (List.getD m 9 0), (List.getD m 10 0), (List.getD m 11 0)] k 0)), (ZA1 m), (65, .i (k : Int))], [(ZA0 n s t es)]⟩ hT (by kernel_rfl) ⟨(by omega), (by omega), (by omega), trivial⟩ ?_
     rw [show (List.getD [(List.getD m 0 0), (List.getD m 1 0), (List.getD m 2 0), (List.getD m 3 0), (List.getD m 4 0), (List.getD m 5 0), (List.getD m 6 0), (List.getD m 7 0), (List.getD m 8 0), (List.getD m 9 0), (List.getD m 10 0), (List.getD m 11 0)] k 0) = (List.getD m k 0) from by rw [arr12 m hm]]
     refine kq [(ZAT (decide ((List.getD m k 0) ≠ 0))), (ZAL (decide ((List.getD m k 0) ≠ 0))), (ZAT (decide ((List.getD m k 0) ≠ 0))), (ZAT (decide ((List.getD m k 0) ≠ 0))), (ZAG (decide ((List.getD m k 0) ≠ 0))), (ZAT (ZAb1 m k s)), (ZAL (ZAb1 m k s)), (ZAT (ZAb1 m k s)), (ZAT (ZAb1 m k s)), (ZAG (ZAb1 m k s))] ⟨84, [(2, .p 102), (ZA1 m), (65, .i (k : Int)), (82, .one (.bool (((decide ((List.getD m k 0) ≠ 0)) && (decide ((k : Int) ≠ s))) && (decide ((k : Int) ≠ t)))))], [(ZA0 n s t es)]⟩ hT (by kernel_rfl) ⟨(fun _ h => h), (fun _ => by decide), (fun _ h => h), (fun _ h => h), id, (fun _ h => h), (fun _ => by decide), (fun _ h => h), (fun _ h => h), id, trivial⟩ ?_
     refine awp_cond (b := (((decide ((List.getD m k 0) ≠ 0)) && (decide ((k : Int) ≠ s))) && (decide ((k : Int) ≠ t)))) (by kernel_rfl) (fun c18 => ?_) (fun c18 => ?_)
     ·
      try simp only [bs] at c18
      refine kq [] ⟨84, [(4, .i 8)], []⟩ hT (by kernel_rfl) trivial ?_
      refine awp_ret ?_
      refine kRet.ret _ [] [] (.i 8) [] (by kernel_rfl) trivial ?_
      exact ⟨congrArg (fun x1 => (.i x1 : AV)) (show 8 = (flowErr n s t es f) from by rw [flowErr, if_neg c2, if_neg (by omega), if_neg (by rw [hov]; decide), if_pos (lost_far hok (k := k) (by have := hgm k (by omega); omega) (by omega) (by omega))]), rfl⟩
     ·
      try simp only [bs] at c18
      refine awp_skip ?_
      refine kr [(-9223372036854775808 ≤ (((k + 1) : Nat) : Int) ∧ (((k + 1) : Nat) : Int) ≤ 9223372036854775807)] ⟨84, [(2, .p 102), (ZA1 m), (65, .one (ZA10 k))], [(ZA0 n s t es)]⟩ hT (by kernel_rfl) ⟨(by omega), trivial⟩ ?_
      refine loop_end _ ?_ ⟨(k + 1), ⟨(by omega), (by intro j hj hjs hjt; rcases Nat.lt_succ_iff_lt_or_eq.1 hj with h | h; exact hl j h hjs hjt; subst h; omega), rfl⟩, (by kernel_rfl)⟩
      omega
    ·
     try simp only [bs] at c16
     refine awp_exit ?_
     refine kq [] ⟨84, [(4, .i 0)], []⟩ hT (by kernel_rfl) trivial ?_
     refine awp_ret ?_
     refine kRet.ret _ [] [] (.i 0) [] (by kernel_rfl) trivial ?_
     exact ⟨congrArg (fun x1 => (.i x1 : AV)) (show 0 = (flowErr n s t es f) from by rw [flowErr, if_neg c2, if_neg (by omega), if_neg (by rw [hov]; decide), if_neg (by rintro ⟨j, j1, j2, j3, j4⟩; have := hgm j (by omega); have := hl j (by omega) j2 j3; omega)]), rfl⟩
theorem flow_value (n s t : Int) (es : List Arc) (f : List Int) : ACall Tryd.prog 45 [.agg (ZA4 n s t es), .one (.ro (.ints .i64 f))] [] (fun ov oh => ov = .tup [(false, [(.i (okI (flowErr n s t es f) (gone es f s)))]), (false, [(.i (flowErr n s t es f))])] ∧ oh = []) := by
 refine acall_intro hT Tryd.func45 rfl (by kernel_rfl) rfl (by kernel_rfl) ?_
 refine kq [] ⟨48, [(ZA2 f), (2, .p 102)], [(ZA0 n s t es)]⟩ hT (by kernel_rfl) trivial ?_
 refine awp_seq ?_
 refine awp_seq (awp_region ?_)
 refine ko 2 [(0 < 1)] ⟨48, [(ZA2 f), (2, .p 102), (10, .agg (ZA4 n s t es)), (11, .one (.ro (.ints .i64 f)))], [(ZA0 n s t es)]⟩ hT (by kernel_rfl) (by kernel_rfl) ⟨(by decide), trivial⟩ ?_
 refine aops_pure false ⟨true, [], 59, [.agg (ZA4 n s t es), .one (.ro (.ints .i64 f))], []⟩ [.agg (ZA4 n s t es), .one (.ro (.ints .i64 f))] (.i (flowErr n s t es f)) ⟨48, [(ZA2 f), (2, .p 102), (10, .agg (ZA4 n s t es)), (11, .one (.ro (.ints .i64 f))), (12, .i (flowErr n s t es f))], [(ZA0 n s t es)]⟩ (by kernel_rfl) (by kernel_rfl) (fun _ => trivial) rfl (fun _ => flow_check n s t es f) ?_
 refine ko 1 [] ⟨48, [(ZA2 f), (2, .p 102), (6, .i (flowErr n s t es f))], [(ZA0 n s t es)]⟩ hT (by kernel_rfl) (by kernel_rfl) trivial ?_
 refine aops_end_seq (by kernel_rfl) ?_
 refine kq [] ⟨48, [(ZA2 f), (2, .p 102), (6, .i (flowErr n s t es f)), (14, .one (.bool (decide ((flowErr n s t es f) ≠ 0))))], [(ZA0 n s t es)]⟩ hT (by kernel_rfl) trivial ?_
 refine awp_cond (b := (decide ((flowErr n s t es f) ≠ 0))) (by kernel_rfl) (fun c2 => ?_) (fun c2 => ?_)
 ·
  try simp only [bs] at c2
  refine kq [] ⟨48, [(4, .i 0), (5, .i (flowErr n s t es f))], []⟩ hT (by kernel_rfl) trivial ?_
  refine awp_ret ?_
  refine kRet.ret _ [] [] (.tup [(false, [(.i 0)]), (false, [(.i (flowErr n s t es f))])]) [] (by kernel_rfl) trivial ?_
  exact ⟨congrArg (fun x1 => (.tup [(false, [(.i x1)]), (false, [(.i (flowErr n s t es f))])] : AV)) (show 0 = (okI (flowErr n s t es f) (gone es f s)) from by first | exact (okI_no _ c2).symm), rfl⟩
 ·
  try simp only [bs] at c2
  have hE : flowErr n s t es f = 0 := by omega
  have hfl := flowErr_ok hE
  have hok := hfl.net
  have h1 := hok.n1
  have h2 := hok.n2
  have h3 := hok.len
  have h4 := hok.s0
  have h5 := hok.s1
  have h6 := hok.t0
  have h7 := hok.t1
  have hlen := hfl.fin.len
  have hf10 := hfl.f10
  refine awp_skip ?_
  refine kq [] ⟨48, [(ZA2 f), (2, .p 102), (7, .i 0)], [(ZA0 n s t es)]⟩ hT (by kernel_rfl) trivial ?_
  refine awp_seq ?_
  refine kq [(0 < 1)] ⟨48, [(ZA2 f), (2, .p 102), (7, .i 0), (17, .one (.ro (.arcs es))), (ZA3 es), (19, .i 0)], [(ZA0 n s t es)]⟩ hT (by kernel_rfl) ⟨(by decide), trivial⟩ ?_
  refine awp_block ?_
  refine awp_loop (I := fun κ σ => ∃ (i : Nat) (u : Int), ((i ≤ es.length) ∧ (u + gone (es.drop i) (f.drop i) s = gone es f s) ∧ (-(10000 * i) ≤ u ∧ u ≤ 10000 * (i : Int)) ∧ es.length - i = κ) ∧ σ = ⟨48, [(ZA2 f), (2, .p 102), (7, .i u), (17, .one (.ro (.arcs es))), (ZA3 es), (ZA8 i)], [(ZA0 n s t es)]⟩) _ ⟨0, 0, ⟨(by omega), (by simp), (by omega), rfl⟩, (by kernel_rfl)⟩ ?_
  rintro κ _ ⟨i, u, ⟨hi, hu, hb, rfl⟩, rfl⟩
  refine kq [] ⟨48, [(ZA2 f), (2, .p 102), (7, .i u), (17, .one (.ro (.arcs es))), (ZA3 es), (ZA8 i), (20, .one (.bool (decide ((i : Int) < ((es.length : Nat) : Int)))))], [(ZA0 n s t es)]⟩ hT (by kernel_rfl) trivial ?_
  refine awp_seq ?_
  refine awp_cond (b := (decide ((i : Int) < ((es.length : Nat) : Int)))) (by kernel_rfl) (fun c6 => ?_) (fun c6 => ?_)
  ·
   try simp only [bs] at c6
   have hg := gone_drop (i := i) (f := f) s (by omega) hlen
   have hfi := hf10 i (by omega)
   refine awp_skip ?_
   refine awp_seq ?_
   refine awp_block ?_
   refine kq [((0 : Int) ≤ (i : Int)), ((i : Int) < ((es.length : Nat) : Int)), (0 < 1)] ⟨48, [(ZA2 f), (2, .p 102), (7, .i u), (ZA12 i), (9, .p 109), (17, .one (.ro (.arcs es))), (ZA3 es), (ZA8 i)], [(ZA0 n s t es), (ZA7 es i)]⟩ hT (by kernel_rfl) ⟨(by omega), (by omega), (by decide), trivial⟩ ?_
   refine awp_seq ?_
   refine kq [(0 < 1), (0 < 1)] ⟨48, [(ZA2 f), (2, .p 102), (7, .i u), (ZA12 i), (9, .p 109), (17, .one (.ro (.arcs es))), (ZA3 es), (ZA8 i), (28, .one (.bool (decide (((List.getD es i default).src) = s))))], [(ZA0 n s t es), (ZA7 es i)]⟩ hT (by kernel_rfl) ⟨(by decide), (by decide), trivial⟩ ?_
   refine awp_cond (b := (decide (((List.getD es i default).src) = s))) (by kernel_rfl) (fun c8 => ?_) (fun c8 => ?_)
   ·
    try simp only [bs] at c8
    refine kr [((0 : Int) ≤ (i : Int)), ((i : Int) < ((f.length : Nat) : Int)), (-9223372036854775808 ≤ (u + (List.getD f i 0)) ∧ (u + (List.getD f i 0)) ≤ 9223372036854775807)] ⟨48, [(ZA2 f), (2, .p 102), (7, .i (u + (List.getD f i 0))), (ZA12 i), (9, .p 109), (17, .one (.ro (.arcs es))), (ZA3 es), (ZA8 i)], [(ZA0 n s t es), (ZA7 es i)]⟩ hT (by kernel_rfl) ⟨(by omega), (by omega), (by omega), trivial⟩ ?_
    refine kq [(0 < 1), (0 < 1)] ⟨48, [(ZA2 f), (2, .p 102), (7, .i (u + (List.getD f i 0))), (ZA12 i), (17, .one (.ro (.arcs es))), (ZA3 es), (ZA8 i), (39, .one (.bool (decide (((List.getD es i default).dst) = s))))], [(ZA0 n s t es)]⟩ hT (by kernel_rfl) ⟨(by decide), (by decide), trivial⟩ ?_
    refine awp_cond (b := (decide (((List.getD es i default).dst) = s))) (by kernel_rfl) (fun c10 => ?_) (fun c10 => ?_)
    ·
     try simp only [bs] at c10
     refine kr [((0 : Int) ≤ (i : Int)), ((i : Int) < ((f.length : Nat) : Int)), (-9223372036854775808 ≤ ((u + (List.getD f i 0)) - (List.getD f i 0)) ∧ ((u + (List.getD f i 0)) - (List.getD f i 0)) ≤ 9223372036854775807)] ⟨48, [(ZA2 f), (2, .p 102), (7, .i ((u + (List.getD f i 0)) - (List.getD f i 0))), (17, .one (.ro (.arcs es))), (ZA3 es), (ZA8 i)], [(ZA0 n s t es)]⟩ hT (by kernel_rfl) ⟨(by omega), (by omega), (by omega), trivial⟩ ?_
     refine kr [(-9223372036854775808 ≤ (((i + 1) : Nat) : Int) ∧ (((i + 1) : Nat) : Int) ≤ 9223372036854775807)] ⟨48, [(ZA2 f), (2, .p 102), (7, .i ((u + (List.getD f i 0)) - (List.getD f i 0))), (17, .one (.ro (.arcs es))), (ZA3 es), (19, .one (ZA10 i))], [(ZA0 n s t es)]⟩ hT (by kernel_rfl) ⟨(by omega), trivial⟩ ?_
     refine loop_end _ ?_ ⟨(i + 1), ((u + (List.getD f i 0)) - (List.getD f i 0)), ⟨(by omega), (by omega), (by omega), rfl⟩, (by kernel_rfl)⟩
     omega
    ·
     try simp only [bs] at c10
     refine awp_skip ?_
     refine kr [(-9223372036854775808 ≤ (((i + 1) : Nat) : Int) ∧ (((i + 1) : Nat) : Int) ≤ 9223372036854775807)] ⟨48, [(ZA2 f), (2, .p 102), (7, .i (u + (List.getD f i 0))), (17, .one (.ro (.arcs es))), (ZA3 es), (19, .one (ZA10 i))], [(ZA0 n s t es)]⟩ hT (by kernel_rfl) ⟨(by omega), trivial⟩ ?_
     refine loop_end _ ?_ ⟨(i + 1), (u + (List.getD f i 0)), ⟨(by omega), (by omega), (by omega), rfl⟩, (by kernel_rfl)⟩
     omega
   ·
    try simp only [bs] at c8
    refine awp_skip ?_
    refine kq [(0 < 1), (0 < 1)] ⟨48, [(ZA2 f), (2, .p 102), (7, .i u), (ZA12 i), (17, .one (.ro (.arcs es))), (ZA3 es), (ZA8 i), (39, .one (.bool (decide (((List.getD es i default).dst) = s))))], [(ZA0 n s t es)]⟩ hT (by kernel_rfl) ⟨(by decide), (by decide), trivial⟩ ?_
    refine awp_cond (b := (decide (((List.getD es i default).dst) = s))) (by kernel_rfl) (fun c10 => ?_) (fun c10 => ?_)
    ·
     try simp only [bs] at c10
     refine kr [((0 : Int) ≤ (i : Int)), ((i : Int) < ((f.length : Nat) : Int)), (-9223372036854775808 ≤ (u - (List.getD f i 0)) ∧ (u - (List.getD f i 0)) ≤ 9223372036854775807)] ⟨48, [(ZA2 f), (2, .p 102), (7, .i (u - (List.getD f i 0))), (17, .one (.ro (.arcs es))), (ZA3 es), (ZA8 i)], [(ZA0 n s t es)]⟩ hT (by kernel_rfl) ⟨(by omega), (by omega), (by omega), trivial⟩ ?_
     refine kr [(-9223372036854775808 ≤ (((i + 1) : Nat) : Int) ∧ (((i + 1) : Nat) : Int) ≤ 9223372036854775807)] ⟨48, [(ZA2 f), (2, .p 102), (7, .i (u - (List.getD f i 0))), (17, .one (.ro (.arcs es))), (ZA3 es), (19, .one (ZA10 i))], [(ZA0 n s t es)]⟩ hT (by kernel_rfl) ⟨(by omega), trivial⟩ ?_
     refine loop_end _ ?_ ⟨(i + 1), (u - (List.getD f i 0)), ⟨(by omega), (by omega), (by omega), rfl⟩, (by kernel_rfl)⟩
     omega
    ·
     try simp only [bs] at c10
     refine awp_skip ?_
     refine kr [(-9223372036854775808 ≤ (((i + 1) : Nat) : Int) ∧ (((i + 1) : Nat) : Int) ≤ 9223372036854775807)] ⟨48, [(ZA2 f), (2, .p 102), (7, .i u), (17, .one (.ro (.arcs es))), (ZA3 es), (19, .one (ZA10 i))], [(ZA0 n s t es)]⟩ hT (by kernel_rfl) ⟨(by omega), trivial⟩ ?_
     refine loop_end _ ?_ ⟨(i + 1), u, ⟨(by omega), (by omega), (by omega), rfl⟩, (by kernel_rfl)⟩
     omega
  ·
   try simp only [bs] at c6
   refine awp_exit ?_
   refine kq [] ⟨48, [(4, .i u), (5, .i 0)], []⟩ hT (by kernel_rfl) trivial ?_
   refine awp_ret ?_
   rw [gone_end s (by omega)] at hu
   refine kRet.ret _ [] [] (.tup [(false, [(.i u)]), (false, [(.i 0)])]) [] (by kernel_rfl) trivial ?_
   exact ⟨by first | rw [show (okI (flowErr n s t es f) (gone es f s)) = u from Eq.symm (by first | exact hE.symm | (rw [okI_ok _ hE]; omega)), show (flowErr n s t es f) = 0 from Eq.symm (by first | exact hE.symm | (rw [okI_ok _ hE]; omega))] | rw [show (okI (flowErr n s t es f) (gone es f s)) = u from Eq.symm (by first | exact hE.symm | (rw [okI_ok _ hE]; omega))] | rw [show (flowErr n s t es f) = 0 from Eq.symm (by first | exact hE.symm | (rw [okI_ok _ hE]; omega))], rfl⟩
end Go.Ab
set_option maxRecDepth 100000
namespace Go.Ab
open Go Go.Proofs
abbrev ZBG (g : Bool) : Prop := g = true → g = true
abbrev ZBL (g : Bool) : Prop := g = true → (0 < 1)
abbrev ZBT (g : Bool) : Prop := g = true → (g = true → g = true)
abbrev ZBb0 (a0) (a1 : Int) := ((!(decide ((iand ((a0 : Int) / 2 ^ (Int.toNat a1)) 1) = 0))) : Bool)
abbrev ZB0 (a0 : Int) (a1 : Int) (a2 : Int) (a3 : List Arc) := ([(.i a0), (.i a1), (.i a2), (.ro (.arcs a3))] : List V1)
abbrev ZB1 (a0 : Int) := ((12, .one (.int .u16 (((2 ^ a0.toNat) : Nat) : Int))) : Nat × AV)
abbrev ZB2 (a0 : Int) (a1 : Int) (a2 : Int) (a3 : List Arc) := ([(101, .box 1 4 (ZB0 a0 a1 a2 a3))] : List (Nat × Obj))
abbrev ZB3 (a0) := ((13, .one (.int .u16 (a0 : Int))) : Nat × AV)
abbrev ZB4 (a0 : List Arc) := ((10, .i ((a0.length : Nat) : Int)) : Nat × AV)
abbrev ZB5 (a0) := ((8, .one (.int .u16 (a0 : Int))) : Nat × AV)
abbrev ZB6 (a0 : Int) (a1 : List Arc) (a2) (a3 : Int) := ((5, .i (a0 + ((((List.getD a1 a2 default).cap) * (iand (a3 / 2 ^ (Int.toNat ((List.getD a1 a2 default).src))) 1)) * (1 - (iand (a3 / 2 ^ (Int.toNat ((List.getD a1 a2 default).dst))) 1))))) : Nat × AV)
abbrev ZB7 (a0) := ((13, .one (.int .u16 (((a0 + 1) : Nat) : Int))) : Nat × AV)
abbrev ZB8 (a0 : List Arc) (a1) := ((.i (capOf a0 (a1 : Int))) : V1)
theorem ref_capOf (n s t : Int) (es : List Arc) (z : Int) (hg : GOk n es 0) (h0 : 0 ≤ z) (h1 : z ≤ 65535) : ACall Tryd.prog 58 [.agg (ZB0 n s t es), .one (.int .u16 z)] [] (fun ov oh => ov = .i (capOf es z) ∧ oh = []) := by
 refine acall_intro hT Tryd.func58 rfl (by kernel_rfl) rfl (by kernel_rfl) ?_
 refine kq [] ⟨36, [(1, .one (.int .u16 z)), (2, .p 102)], [(102, .box 1 4 (ZB0 n s t es))]⟩ hT (by kernel_rfl) trivial ?_
 refine kq [] ⟨36, [(1, .one (.int .u16 z)), (2, .p 102), (5, .i 0)], [(102, .box 1 4 (ZB0 n s t es))]⟩ hT (by kernel_rfl) trivial ?_
 refine awp_seq ?_
 refine kq [(0 < 1)] ⟨36, [(1, .one (.int .u16 z)), (5, .i 0), (9, .one (.ro (.arcs es))), (ZB4 es), (11, .i 0)], []⟩ hT (by kernel_rfl) ⟨(by decide), trivial⟩ ?_
 refine awp_block ?_
 refine awp_loop (I := fun κ σ => ∃ (i : Nat) (u : Int), ((i ≤ es.length) ∧ (u + capOf (es.drop i) z = capOf es z) ∧ (0 ≤ u ∧ u ≤ 10000 * (i : Int)) ∧ es.length - i = κ) ∧ σ = ⟨36, [(1, .one (.int .u16 z)), (5, .i u), (9, .one (.ro (.arcs es))), (ZB4 es), (11, .i (i : Int))], []⟩) _ ⟨0, 0, ⟨(by omega), (by simp), (by omega), rfl⟩, (by kernel_rfl)⟩ ?_
 rintro κ _ ⟨i, u, ⟨hi, hu, hb, rfl⟩, rfl⟩
 refine kq [] ⟨36, [(1, .one (.int .u16 z)), (5, .i u), (9, .one (.ro (.arcs es))), (ZB4 es), (11, .i (i : Int)), (12, .one (.bool (decide ((i : Int) < ((es.length : Nat) : Int)))))], []⟩ hT (by kernel_rfl) trivial ?_
 refine awp_seq ?_
 refine awp_cond (b := (decide ((i : Int) < ((es.length : Nat) : Int)))) (by kernel_rfl) (fun c3 => ?_) (fun c3 => ?_)
 ·
  try simp only [bs] at c3
  have hci : i < es.length := by omega
  obtain ⟨a1, a2, a3, a4, a5, a6⟩ := hg.at_ hci
  have hn2 := hg.n2
  have hl := hg.len
  have b1 := bit_01 (es.getD i default).src h0
  have b2 := bit_01 (es.getD i default).dst h0
  have hs1 := shr_in (es.getD i default).src h0 h1
  have hs2 := shr_in (es.getD i default).dst h0 h1
  have hc1 := part_in a5 a6 b1
  have hc2 := part_in2 a5 a6 b1 b2
  rw [bit] at b1 b2
  rw [bit] at hc1
  rw [bit, bit] at hc2
  refine awp_skip ?_
  refine awp_seq ?_
  refine awp_block ?_
  refine kq [((0 : Int) ≤ (i : Int)), ((i : Int) < ((es.length : Nat) : Int)), (0 < 1)] ⟨36, [(1, .one (.int .u16 z)), (5, .i u), (7, .p 107), (9, .one (.ro (.arcs es))), (ZB4 es), (11, .i (i : Int))], [(107, .box 1 3 [(.i ((List.getD es i default).src)), (.i ((List.getD es i default).dst)), (.i ((List.getD es i default).cap))])]⟩ hT (by kernel_rfl) ⟨(by omega), (by omega), (by decide), trivial⟩ ?_
  refine awp_still [1, 5, 9, 10, 11] [] [(0 < 1), (0 < 1), ((0 : Int) ≤ ((List.getD es i default).src)), (((List.getD es i default).src) ≤ 16), ((0 : Int) ≤ (z / 2 ^ (Int.toNat ((List.getD es i default).src))) ∧ (0 ≤ (z / 2 ^ (Int.toNat ((List.getD es i default).src))) ∧ (z / 2 ^ (Int.toNat ((List.getD es i default).src))) ≤ 65535)), ((0 : Int) ≤ 1 ∧ (0 ≤ (1 : Int) ∧ (1 : Int) ≤ 65535)), (-9223372036854775808 ≤ (iand (z / 2 ^ (Int.toNat ((List.getD es i default).src))) 1) ∧ (iand (z / 2 ^ (Int.toNat ((List.getD es i default).src))) 1) ≤ 9223372036854775807), (-9223372036854775808 ≤ (((List.getD es i default).cap) * (iand (z / 2 ^ (Int.toNat ((List.getD es i default).src))) 1)) ∧ (((List.getD es i default).cap) * (iand (z / 2 ^ (Int.toNat ((List.getD es i default).src))) 1)) ≤ 9223372036854775807), (0 < 1), ((0 : Int) ≤ ((List.getD es i default).dst)), (((List.getD es i default).dst) ≤ 16), ((0 : Int) ≤ (z / 2 ^ (Int.toNat ((List.getD es i default).dst))) ∧ (0 ≤ (z / 2 ^ (Int.toNat ((List.getD es i default).dst))) ∧ (z / 2 ^ (Int.toNat ((List.getD es i default).dst))) ≤ 65535)), ((0 : Int) ≤ 1 ∧ (0 ≤ (1 : Int) ∧ (1 : Int) ≤ 65535)), (0 ≤ (1 - (iand (z / 2 ^ (Int.toNat ((List.getD es i default).dst))) 1)) ∧ (1 - (iand (z / 2 ^ (Int.toNat ((List.getD es i default).dst))) 1)) ≤ 65535), (-9223372036854775808 ≤ (1 - (iand (z / 2 ^ (Int.toNat ((List.getD es i default).dst))) 1)) ∧ (1 - (iand (z / 2 ^ (Int.toNat ((List.getD es i default).dst))) 1)) ≤ 9223372036854775807), (-9223372036854775808 ≤ ((((List.getD es i default).cap) * (iand (z / 2 ^ (Int.toNat ((List.getD es i default).src))) 1)) * (1 - (iand (z / 2 ^ (Int.toNat ((List.getD es i default).dst))) 1))) ∧ ((((List.getD es i default).cap) * (iand (z / 2 ^ (Int.toNat ((List.getD es i default).src))) 1)) * (1 - (iand (z / 2 ^ (Int.toNat ((List.getD es i default).dst))) 1))) ≤ 9223372036854775807), (-9223372036854775808 ≤ (u + ((((List.getD es i default).cap) * (iand (z / 2 ^ (Int.toNat ((List.getD es i default).src))) 1)) * (1 - (iand (z / 2 ^ (Int.toNat ((List.getD es i default).dst))) 1)))) ∧ (u + ((((List.getD es i default).cap) * (iand (z / 2 ^ (Int.toNat ((List.getD es i default).src))) 1)) * (1 - (iand (z / 2 ^ (Int.toNat ((List.getD es i default).dst))) 1)))) ≤ 9223372036854775807)] ⟨36, [(1, .one (.int .u16 z)), (ZB6 u es i z), (9, .one (.ro (.arcs es))), (ZB4 es), (11, .i (i : Int))], []⟩ (by kernel_rfl) (by kernel_rfl) hT (by kernel_rfl) ⟨(by decide), (by decide), (by omega), (by omega), (by omega), (by omega), (by omega), (by omega), (by decide), (by omega), (by omega), (by omega), (by omega), (by omega), (by omega), (by omega), (by omega), trivial⟩ ?_
  refine kr [(-9223372036854775808 ≤ (((i + 1) : Nat) : Int) ∧ (((i + 1) : Nat) : Int) ≤ 9223372036854775807)] ⟨36, [(1, .one (.int .u16 z)), (ZB6 u es i z), (9, .one (.ro (.arcs es))), (ZB4 es), (11, .i (((i + 1) : Nat) : Int))], []⟩ hT (by kernel_rfl) ⟨(by omega), trivial⟩ ?_
  refine loop_end _ ?_ ⟨(i + 1), (u + ((((List.getD es i default).cap) * (iand (z / 2 ^ (Int.toNat ((List.getD es i default).src))) 1)) * (1 - (iand (z / 2 ^ (Int.toNat ((List.getD es i default).dst))) 1)))), ⟨(by omega), (by rw [capOf_drop hci] at hu; simp only [bit] at hu; omega), (by omega), rfl⟩, (by kernel_rfl)⟩
  omega
 ·
  try simp only [bs] at c3
  refine awp_exit ?_
  refine kq [] ⟨36, [(4, .i u)], []⟩ hT (by kernel_rfl) trivial ?_
  refine awp_ret ?_
  rw [capOf_end z (by omega)] at hu
  refine kRet.ret _ [] [] (.i u) [] (by kernel_rfl) trivial ?_
  exact ⟨congrArg (fun x1 => (.i x1 : AV)) (show u = (capOf es z) from by omega), rfl⟩
theorem ref_parted (n s t : Int) (es : List Arc) (hok : NOk n s t es) : ACall Tryd.prog 42 [.agg (ZB0 n s t es)] [] (fun ov oh => ov = .tup [(false, [(.i ((parted n s t es).1))]), (false, [(.int .u16 ((parted n s t es).2.1))]), (false, [(.int .u16 ((parted n s t es).2.2))])] ∧ oh = []) := by
 refine acall_intro hT Tryd.func42 rfl (by kernel_rfl) rfl (by kernel_rfl) ?_
 have h1 := hok.n1
 have h2 := hok.n2
 have hG : GOk n es 0 := hok.toGOk
 have h4 := hok.s0
 have h5 := hok.s1
 have h6 := hok.t0
 have h7 := hok.t1
 have hpw : 2 ^ n.toNat ≤ 4096 := pow_le12 (by omega)
 have hpc : (1 : Int) * 2 ^ n.toNat = ((2 ^ n.toNat : Nat) : Int) := by rw [Int.one_mul]; norm_cast
 have hpi : (0 : Int) ≤ 2 ^ n.toNat ∧ (2 : Int) ^ n.toNat ≤ 4096 := by have h := hpc; rw [Int.one_mul] at h; rw [h]; exact ⟨Int.natCast_nonneg _, Int.ofNat_le.2 hpw⟩
 refine kq [] ⟨58, [(1, .p 101)], (ZB2 n s t es)⟩ hT (by kernel_rfl) trivial ?_
 refine kq [] ⟨58, [(1, .p 101), (5, .i (-1))], (ZB2 n s t es)⟩ hT (by kernel_rfl) trivial ?_
 refine kq [] ⟨58, [(1, .p 101), (5, .i (-1)), (6, .one (.int .u16 0)), (7, .one (.int .u16 0))], (ZB2 n s t es)⟩ hT (by kernel_rfl) trivial ?_
 refine awp_seq ?_
 refine kq [(0 < 1), ((0 : Int) ≤ n), (n ≤ 16), (0 ≤ ((1 : Int) * 2 ^ (Int.toNat n)) ∧ ((1 : Int) * 2 ^ (Int.toNat n)) ≤ 65535)] ⟨58, [(1, .p 101), (5, .i (-1)), (6, .one (.int .u16 0)), (7, .one (.int .u16 0)), (12, .one (.int .u16 ((1 : Int) * 2 ^ (Int.toNat n)))), (13, .one (.int .u16 0))], (ZB2 n s t es)⟩ hT (by kernel_rfl) ⟨(by decide), (by omega), (by omega), (by omega), trivial⟩ ?_
 refine awp_block ?_
 rw [show ((1 : Int) * 2 ^ (Int.toNat n)) = (((2 ^ n.toNat) : Nat) : Int) from by exact hpc]
 refine awp_loop (I := fun κ σ => ∃ (i : Nat) (b l m : Int), ((i ≤ 2 ^ n.toNat) ∧ ((b, l, m) = (List.range i).foldl (fun x (k : Nat) => pstep s t es x (k : Int)) (-1, 0, 0)) ∧ (-1 ≤ b ∧ b ≤ 600000) ∧ (0 ≤ l ∧ l ≤ 65535) ∧ (0 ≤ m ∧ m ≤ 65535) ∧ 2 ^ n.toNat - i = κ) ∧ σ = ⟨58, [(1, .p 101), (5, .i b), (6, .one (.int .u16 l)), (7, .one (.int .u16 m)), (ZB1 n), (ZB3 i)], (ZB2 n s t es)⟩) _ ⟨0, (-1 : Int), 0, 0, ⟨(by omega), (by rfl), (by omega), (by omega), (by omega), rfl⟩, (by kernel_rfl)⟩ ?_
 rintro κ _ ⟨i, b, l, m, ⟨hi, hp, hb, hl, hm, rfl⟩, rfl⟩
 refine kq [] ⟨58, [(1, .p 101), (5, .i b), (6, .one (.int .u16 l)), (7, .one (.int .u16 m)), (ZB1 n), (ZB3 i), (14, .one (.bool (decide ((i : Int) < (((2 ^ n.toNat) : Nat) : Int)))))], (ZB2 n s t es)⟩ hT (by kernel_rfl) trivial ?_
 refine awp_seq ?_
 refine awp_cond (b := (decide ((i : Int) < (((2 ^ n.toNat) : Nat) : Int)))) (by kernel_rfl) (fun c4 => ?_) (fun c4 => ?_)
 ·
  try simp only [bs] at c4
  have hi0 : (0 : Int) ≤ (i : Int) := by omega
  have hi1 : (i : Int) ≤ 65535 := by omega
  have hcb := capOf_in hG (z := (i : Int)) hi0
  have hs1 := shr_in s hi0 hi1
  have hs2 := shr_in t hi0 hi1
  refine awp_skip ?_
  refine awp_seq ?_
  refine awp_block ?_
  refine kq [] ⟨58, [(1, .p 101), (5, .i b), (6, .one (.int .u16 l)), (7, .one (.int .u16 m)), (ZB5 i), (ZB1 n), (ZB3 i)], (ZB2 n s t es)⟩ hT (by kernel_rfl) trivial ?_
  refine awp_seq ?_
  refine kq [(0 < 1), ((0 : Int) ≤ s), (s ≤ 16), ((0 : Int) ≤ ((i : Int) / 2 ^ (Int.toNat s)) ∧ (0 ≤ ((i : Int) / 2 ^ (Int.toNat s)) ∧ ((i : Int) / 2 ^ (Int.toNat s)) ≤ 65535)), ((0 : Int) ≤ 1 ∧ (0 ≤ (1 : Int) ∧ (1 : Int) ≤ 65535)), (ZBT (ZBb0 i s)), (ZBL (ZBb0 i s)), (ZBT (ZBb0 i s)), (ZBT (ZBb0 i s)), ((ZBb0 i s) = true → ((0 : Int) ≤ t)), ((ZBb0 i s) = true → (t ≤ 16)), (ZBT (ZBb0 i s)), ((ZBb0 i s) = true → ((0 : Int) ≤ ((i : Int) / 2 ^ (Int.toNat t)) ∧ (0 ≤ ((i : Int) / 2 ^ (Int.toNat t)) ∧ ((i : Int) / 2 ^ (Int.toNat t)) ≤ 65535))), ((ZBb0 i s) = true → ((0 : Int) ≤ 1 ∧ (0 ≤ (1 : Int) ∧ (1 : Int) ≤ 65535))), (ZBT (ZBb0 i s)), (ZBG (ZBb0 i s))] ⟨58, [(1, .p 101), (5, .i b), (6, .one (.int .u16 l)), (7, .one (.int .u16 m)), (ZB5 i), (ZB1 n), (ZB3 i), (29, .one (.bool ((decide ((iand ((i : Int) / 2 ^ (Int.toNat s)) 1) = 0)) || (decide ((iand ((i : Int) / 2 ^ (Int.toNat t)) 1) = 1)))))], (ZB2 n s t es)⟩ hT (by kernel_rfl) ⟨(by decide), (by omega), (by omega), (by omega), (by omega), (fun _ h => h), (fun _ => by decide), (fun _ h => h), (fun _ h => h), (by intro hg; simp only [bs, ZBb0] at hg; omega), (by intro hg; simp only [bs, ZBb0] at hg; omega), (fun _ h => h), (by intro hg; simp only [bs, ZBb0] at hg; omega), (by intro hg; simp only [bs, ZBb0] at hg; omega), (fun _ h => h), id, trivial⟩ ?_
  refine awp_cond (b := ((decide ((iand ((i : Int) / 2 ^ (Int.toNat s)) 1) = 0)) || (decide ((iand ((i : Int) / 2 ^ (Int.toNat t)) 1) = 1)))) (by kernel_rfl) (fun c6 => ?_) (fun c6 => ?_)
  ·
   try simp only [bs] at c6
   have hps : (b, l, m) = pstep s t es (b, l, m) (i : Int) := by
    rw [pstep, if_pos (by simp only [bit]; exact c6)]
   refine awp_exit ?_
   refine kr [(0 ≤ (((i + 1) : Nat) : Int) ∧ (((i + 1) : Nat) : Int) ≤ 65535)] ⟨58, [(1, .p 101), (5, .i b), (6, .one (.int .u16 l)), (7, .one (.int .u16 m)), (ZB1 n), (ZB7 i)], (ZB2 n s t es)⟩ hT (by kernel_rfl) ⟨(by omega), trivial⟩ ?_
   refine loop_end _ ?_ ⟨(i + 1), b, l, m, ⟨(by omega), (by rw [List.range_succ, List.foldl_append, ← hp]; simp only [List.foldl_cons, List.foldl_nil]; exact hps), (by omega), (by first | omega | exact iand_in hl.1 hl.2 hi0 hi1), (by first | omega | exact ior_in hm.1 hm.2 hi0 hi1), rfl⟩, (by kernel_rfl)⟩
   omega
  ·
   try simp only [bs] at c6
   refine awp_skip ?_
   refine awp_seq (awp_region ?_)
   refine ko 2 [(0 < 1)] ⟨58, [(1, .p 101), (5, .i b), (6, .one (.int .u16 l)), (7, .one (.int .u16 m)), (ZB5 i), (ZB1 n), (ZB3 i), (30, .agg (ZB0 n s t es)), (31, .one (.int .u16 (i : Int)))], (ZB2 n s t es)⟩ hT (by kernel_rfl) (by kernel_rfl) ⟨(by decide), trivial⟩ ?_
   refine aops_pure false ⟨true, [], 58, [.agg (ZB0 n s t es), .one (.int .u16 (i : Int))], []⟩ [.agg (ZB0 n s t es), .one (.int .u16 (i : Int))] (.one (ZB8 es i)) ⟨58, [(1, .p 101), (5, .i b), (6, .one (.int .u16 l)), (7, .one (.int .u16 m)), (ZB5 i), (ZB1 n), (ZB3 i), (30, .agg (ZB0 n s t es)), (31, .one (.int .u16 (i : Int))), (32, .one (ZB8 es i))], (ZB2 n s t es)⟩ (by kernel_rfl) (by kernel_rfl) (fun _ => trivial) rfl (fun _ => ref_capOf n s t es (i : Int) (by assumption) (by omega) (by omega)) ?_
   refine ko 1 [] ⟨58, [(1, .p 101), (5, .i b), (6, .one (.int .u16 l)), (7, .one (.int .u16 m)), (ZB5 i), (9, .one (ZB8 es i)), (ZB1 n), (ZB3 i)], (ZB2 n s t es)⟩ hT (by kernel_rfl) (by kernel_rfl) trivial ?_
   refine aops_end_seq (by kernel_rfl) ?_
   refine awp_block ?_
   refine kq [(ZBT (!(decide (b < 0)))), (ZBT (!(decide (b < 0)))), (ZBG (!(decide (b < 0))))] ⟨58, [(1, .p 101), (5, .i b), (6, .one (.int .u16 l)), (7, .one (.int .u16 m)), (ZB5 i), (9, .one (ZB8 es i)), (ZB1 n), (ZB3 i), (33, .one (.bool ((decide (b < 0)) || (decide ((capOf es (i : Int)) < b)))))], (ZB2 n s t es)⟩ hT (by kernel_rfl) ⟨(fun _ h => h), (fun _ h => h), id, trivial⟩ ?_
   refine awp_cond (b := ((decide (b < 0)) || (decide ((capOf es (i : Int)) < b)))) (by kernel_rfl) (fun c8 => ?_) (fun c8 => ?_)
   ·
    try simp only [bs] at c8
    have hps : (capOf es (i : Int), (i : Int), (i : Int)) = pstep s t es (b, l, m) (i : Int) := by
     rw [pstep, if_neg (by simp only [bit]; omega)]; simp only; rw [if_pos c8]
    refine kr [] ⟨58, [(1, .p 101), (5, .one (ZB8 es i)), (6, .one (.int .u16 (i : Int))), (7, .one (.int .u16 (i : Int))), (ZB1 n), (ZB3 i)], (ZB2 n s t es)⟩ hT (by kernel_rfl) trivial ?_
    refine kr [(0 ≤ (((i + 1) : Nat) : Int) ∧ (((i + 1) : Nat) : Int) ≤ 65535)] ⟨58, [(1, .p 101), (5, .one (ZB8 es i)), (6, .one (.int .u16 (i : Int))), (7, .one (.int .u16 (i : Int))), (ZB1 n), (ZB7 i)], (ZB2 n s t es)⟩ hT (by kernel_rfl) ⟨(by omega), trivial⟩ ?_
    refine loop_end _ ?_ ⟨(i + 1), (capOf es (i : Int)), (i : Int), (i : Int), ⟨(by omega), (by rw [List.range_succ, List.foldl_append, ← hp]; simp only [List.foldl_cons, List.foldl_nil]; exact hps), (by omega), (by first | omega | exact iand_in hl.1 hl.2 hi0 hi1), (by first | omega | exact ior_in hm.1 hm.2 hi0 hi1), rfl⟩, (by kernel_rfl)⟩
    omega
   ·
    try simp only [bs] at c8
    refine kq [] ⟨58, [(1, .p 101), (5, .i b), (6, .one (.int .u16 l)), (7, .one (.int .u16 m)), (ZB5 i), (ZB1 n), (ZB3 i), (44, .one (.bool (decide ((capOf es (i : Int)) = b))))], (ZB2 n s t es)⟩ hT (by kernel_rfl) trivial ?_
    refine awp_cond (b := (decide ((capOf es (i : Int)) = b))) (by kernel_rfl) (fun c10 => ?_) (fun c10 => ?_)
    ·
     try simp only [bs] at c10
     have hps : (b, iand l (i : Int), ior m (i : Int)) = pstep s t es (b, l, m) (i : Int) := by
      rw [pstep, if_neg (by simp only [bit]; omega)]; simp only; rw [if_neg (by omega), if_pos c10]
     refine kr [((0 : Int) ≤ l ∧ (0 ≤ l ∧ l ≤ 65535)), ((0 : Int) ≤ (i : Int) ∧ (0 ≤ (i : Int) ∧ (i : Int) ≤ 65535)), ((0 : Int) ≤ m ∧ (0 ≤ m ∧ m ≤ 65535)), ((0 : Int) ≤ (i : Int) ∧ (0 ≤ (i : Int) ∧ (i : Int) ≤ 65535))] ⟨58, [(1, .p 101), (5, .i b), (6, .one (.int .u16 (iand l (i : Int)))), (7, .one (.int .u16 (ior m (i : Int)))), (ZB1 n), (ZB3 i)], (ZB2 n s t es)⟩ hT (by kernel_rfl) ⟨(by omega), (by omega), (by omega), (by omega), trivial⟩ ?_
     refine kr [(0 ≤ (((i + 1) : Nat) : Int) ∧ (((i + 1) : Nat) : Int) ≤ 65535)] ⟨58, [(1, .p 101), (5, .i b), (6, .one (.int .u16 (iand l (i : Int)))), (7, .one (.int .u16 (ior m (i : Int)))), (ZB1 n), (ZB7 i)], (ZB2 n s t es)⟩ hT (by kernel_rfl) ⟨(by omega), trivial⟩ ?_
     refine loop_end _ ?_ ⟨(i + 1), b, (iand l (i : Int)), (ior m (i : Int)), ⟨(by omega), (by rw [List.range_succ, List.foldl_append, ← hp]; simp only [List.foldl_cons, List.foldl_nil]; exact hps), (by omega), (by first | omega | exact iand_in hl.1 hl.2 hi0 hi1), (by first | omega | exact ior_in hm.1 hm.2 hi0 hi1), rfl⟩, (by kernel_rfl)⟩
     omega
    ·
     try simp only [bs] at c10
     have hps : (b, l, m) = pstep s t es (b, l, m) (i : Int) := by
      rw [pstep, if_neg (by simp only [bit]; omega)]; simp only; rw [if_neg (by omega), if_neg c10]
     refine awp_skip ?_
     refine kr [(0 ≤ (((i + 1) : Nat) : Int) ∧ (((i + 1) : Nat) : Int) ≤ 65535)] ⟨58, [(1, .p 101), (5, .i b), (6, .one (.int .u16 l)), (7, .one (.int .u16 m)), (ZB1 n), (ZB7 i)], (ZB2 n s t es)⟩ hT (by kernel_rfl) ⟨(by omega), trivial⟩ ?_
     refine loop_end _ ?_ ⟨(i + 1), b, l, m, ⟨(by omega), (by rw [List.range_succ, List.foldl_append, ← hp]; simp only [List.foldl_cons, List.foldl_nil]; exact hps), (by omega), (by first | omega | exact iand_in hl.1 hl.2 hi0 hi1), (by first | omega | exact ior_in hm.1 hm.2 hi0 hi1), rfl⟩, (by kernel_rfl)⟩
     omega
 ·
  try simp only [bs] at c4
  refine awp_exit ?_
  refine kq [] ⟨58, [(2, .i b), (3, .one (.int .u16 l)), (4, .one (.int .u16 m))], []⟩ hT (by kernel_rfl) trivial ?_
  refine awp_ret ?_
  have hfin : (b, l, m) = parted n s t es := by rw [hp, parted, show i = 2 ^ n.toNat by omega]
  refine kRet.ret _ [] [] (.tup [(false, [(.i b)]), (false, [(.int .u16 l)]), (false, [(.int .u16 m)])]) [] (by kernel_rfl) trivial ?_
  exact ⟨by first | rw [show (parted n s t es).1 = b from Eq.symm (by rw [← hfin]), show (parted n s t es).2.1 = l from Eq.symm (by rw [← hfin]), show (parted n s t es).2.2 = m from Eq.symm (by rw [← hfin])] | rw [show (parted n s t es).1 = b from Eq.symm (by rw [← hfin])] | rw [show (parted n s t es).2.1 = l from Eq.symm (by rw [← hfin])] | rw [show (parted n s t es).2.2 = m from Eq.symm (by rw [← hfin])], rfl⟩
theorem ref_value (n s t : Int) (es : List Arc) (hok : NOk n s t es) : ACall Tryd.prog 41 [.agg (ZB0 n s t es)] [] (fun ov oh => ov = .i ((parted n s t es).1) ∧ oh = []) := by
 refine acall_intro hT Tryd.func41 rfl (by kernel_rfl) rfl (by kernel_rfl) ?_
 refine kq [] ⟨13, [(1, .p 101)], (ZB2 n s t es)⟩ hT (by kernel_rfl) trivial ?_
 refine awp_seq (awp_region ?_)
 refine ko 1 [(0 < 1)] ⟨13, [(7, .agg (ZB0 n s t es))], []⟩ hT (by kernel_rfl) (by kernel_rfl) ⟨(by decide), trivial⟩ ?_
 refine aops_pure false ⟨true, [], 42, [.agg (ZB0 n s t es)], []⟩ [.agg (ZB0 n s t es)] (.tup [(false, [(.i ((parted n s t es).1))]), (false, [(.int .u16 ((parted n s t es).2.1))]), (false, [(.int .u16 ((parted n s t es).2.2))])]) ⟨13, [(7, .agg (ZB0 n s t es)), (8, .tup [(false, [(.i ((parted n s t es).1))]), (false, [(.int .u16 ((parted n s t es).2.1))]), (false, [(.int .u16 ((parted n s t es).2.2))])])], []⟩ (by kernel_rfl) (by kernel_rfl) (fun _ => trivial) rfl (fun _ => ref_parted n s t es (by assumption)) ?_
 refine ko 7 [] ⟨13, [(3, .i ((parted n s t es).1))], []⟩ hT (by kernel_rfl) (by kernel_rfl) trivial ?_
 refine aops_end_seq (by kernel_rfl) ?_
 refine kq [] ⟨13, [(2, .i ((parted n s t es).1))], []⟩ hT (by kernel_rfl) trivial ?_
 refine awp_ret ?_
 refine kRet.ret _ [] [] (.i ((parted n s t es).1)) [] (by kernel_rfl) trivial ?_
 exact ⟨rfl, rfl⟩
end Go.Ab
set_option maxRecDepth 100000
namespace Go.Ab
open Go Go.Proofs
abbrev ZKG (g : Bool) : Prop := g = true → g = true
abbrev ZKL (g : Bool) : Prop := g = true → (0 < 1)
abbrev ZKT (g : Bool) : Prop := g = true → (g = true → g = true)
abbrev ZKb0 (a0 : List Arc) (a1) (a2 : List Int) (a3 : List Int) := (((decide (((List.getD a0 a1 default).src) = (List.getD a2 0 0))) && (decide ((List.getD a3 a1 0) < ((List.getD a0 a1 default).cap)))) : Bool)
abbrev ZKb1 (a0 : List Arc) (a1) (a2 : List Int) (a3 : List Int) := (((decide (((List.getD a0 a1 default).dst) = (List.getD a2 0 0))) && (decide ((0 : Int) < (List.getD a3 a1 0)))) : Bool)
abbrev ZKb2 (a0 : List Arc) (a1) (a2 : List Int) := ((decide (((List.getD a0 a1 default).src) = (List.getD a2 0 0))) : Bool)
abbrev ZKb3 (a0 : List Arc) (a1) (a2 : List Int) := ((decide (((List.getD a0 a1 default).dst) = (List.getD a2 0 0))) : Bool)
abbrev ZKb4 (a0 : List Int) := ((decide ((0 : Int) < ((a0.length : Nat) : Int))) : Bool)
abbrev ZK0 (a0 : Int) (a1 : Int) (a2 : Int) (a3 : List Arc) := ((102, .box 1 4 [(.i a0), (.i a1), (.i a2), (.ro (.arcs a3))]) : Nat × Obj)
abbrev ZK1 := ((106, .flat (.steps [(0, false), (0, false), (0, false), (0, false), (0, false), (0, false), (0, false), (0, false), (0, false), (0, false), (0, false), (0, false)])) : Nat × Obj)
abbrev ZK2 (a0 : List Int) := ((1, .one (.ro (.ints .i64 a0))) : Nat × AV)
abbrev ZK3 (a0 : List Arc) (a1) := ((112, .box 1 3 [(.i ((List.getD a0 a1 default).src)), (.i ((List.getD a0 a1 default).dst)), (.i ((List.getD a0 a1 default).cap))]) : Nat × Obj)
abbrev ZK4 (a0 : List Int) := ((107, .fi a0) : Nat × Obj)
abbrev ZK5 (a0 : List Arc) := ((48, .i ((a0.length : Nat) : Int)) : Nat × AV)
abbrev ZK6 (a0 : List (Int × Bool)) (a1 : List (Int × Bool)) (a2 : Int) := ((5013, .flat (.steps (a0 ++ [(((List.getD a1 (Int.toNat a2) (0, false)).1), ((List.getD a1 (Int.toNat a2) (0, false)).2))]))) : Nat × Obj)
abbrev ZK7 (a0 : List Int) := ((10, .i (List.getD a0 0 0)) : Nat × AV)
abbrev ZK8 (a0 : List Int) := ((9, .w 130 a0.length) : Nat × AV)
abbrev ZK9 (a0 : List Int) := ((130, .fi a0) : Nat × Obj)
abbrev ZK10 (a0) := ((49, .i (a0 : Int)) : Nat × AV)
abbrev ZK11 (a0 : List (Int × Bool)) (a1 : Int) := ((116, .box 1 2 [(.i ((List.getD a0 (Int.toNat a1) (0, false)).1)), (.bool ((List.getD a0 (Int.toNat a1) (0, false)).2))]) : Nat × Obj)
abbrev ZK12 (a0 : List (Int × Bool)) := ((13, .w 5013 (a0.length + 1)) : Nat × AV)
abbrev ZK13 (a0) := ((11, .i (a0 : Int)) : Nat × AV)
abbrev ZK14 (a0 : Int) (a1 : List Arc) (a2 : List (Int × Bool)) (a3 : Int) (a4 : List Int) := ((14, .i (min a0 (((List.getD a1 (Int.toNat ((List.getD a2 (Int.toNat a3) (0, false)).1)) default).cap) - (List.getD a4 (Int.toNat ((List.getD a2 (Int.toNat a3) (0, false)).1)) 0)))) : Nat × AV)
theorem most_way (n s t : Int) (es : List Arc) (f : List Int) (hok : NOk n s t es) (hf : FIn es f) : ACall Tryd.prog 60 [.agg [(.i n), (.i s), (.i t), (.ro (.arcs es))], .one (.ro (.ints .i64 f))] [] (fun ov oh => ∃ (l : List (Int × Bool)) (room : Int), (WayOk n s t es f l room) ∧ ov = .tup [(false, [(.w 9001 l.length)]), (false, [(.i room)])] ∧ oh = [(9001, .flat (.steps l))]) := by
 refine acall_intro hT Tryd.func60 rfl (by kernel_rfl) rfl (by kernel_rfl) ?_
 have h1 := hok.n1
 have h2 := hok.n2
 have h3 := hok.len
 have h4 := hok.s0
 have h5 := hok.s1
 have h6 := hok.t0
 have h7 := hok.t1
 have hst0 := hok.ne
 refine kq [] ⟨168, [(ZK2 f), (2, .p 102)], [(ZK0 n s t es)]⟩ hT (by kernel_rfl) trivial ?_
 refine kq [] ⟨168, [(ZK2 f), (2, .p 102), (6, .p 106)], [(ZK0 n s t es), ZK1]⟩ hT (by kernel_rfl) trivial ?_
 refine kq [] ⟨168, [(ZK2 f), (2, .p 102), (6, .p 106), (7, .p 107)], [(ZK0 n s t es), ZK1, (107, .fi [0, 0, 0, 0, 0, 0, 0, 0, 0, 0, 0, 0])]⟩ hT (by kernel_rfl) trivial ?_
 refine awp_seq ?_
 refine kq [] ⟨168, [(ZK2 f), (2, .p 102), (6, .p 106), (7, .p 107), (17, .i 0)], [(ZK0 n s t es), ZK1, (107, .fi [0, 0, 0, 0, 0, 0, 0, 0, 0, 0, 0, 0])]⟩ hT (by kernel_rfl) trivial ?_
 refine awp_block ?_
 refine awp_loop (I := fun κ σ => ∃ (i : Nat) (m : List Int), ((i ≤ 12) ∧ (m.length = 12) ∧ (∀ j, j < i → m.getD j 0 = -1) ∧ 12 - i = κ) ∧ σ = ⟨168, [(ZK2 f), (2, .p 102), (6, .p 106), (7, .p 107), (17, .i (i : Int))], [(ZK0 n s t es), ZK1, (107, .fi m)]⟩) _ ⟨0, [0, 0, 0, 0, 0, 0, 0, 0, 0, 0, 0, 0], ⟨(by omega), (by rfl), (by intro j hj; omega), rfl⟩, (by kernel_rfl)⟩ ?_
 rintro κ _ ⟨i, m, ⟨hi, hm, hmi, rfl⟩, rfl⟩
 refine kq [] ⟨168, [(ZK2 f), (2, .p 102), (6, .p 106), (7, .p 107), (17, .i (i : Int)), (18, .one (.bool (decide ((i : Int) < 12))))], [(ZK0 n s t es), ZK1, (107, .fi m)]⟩ hT (by kernel_rfl) trivial ?_
 refine awp_seq ?_
 refine awp_cond (b := (decide ((i : Int) < 12))) (by kernel_rfl) (fun c4 => ?_) (fun c4 => ?_)
 ·
  try simp only [bs] at c4
  refine awp_skip ?_
  refine awp_seq ?_
  refine awp_block ?_
  refine kq [] ⟨168, [(ZK2 f), (2, .p 102), (6, .p 106), (7, .p 107), (8, .i (i : Int)), (17, .i (i : Int))], [(ZK0 n s t es), ZK1, (107, .fi m)]⟩ hT (by kernel_rfl) trivial ?_
  refine kr [((0 : Int) ≤ (i : Int)), ((i : Int) < 12), (i < m.length)] ⟨168, [(ZK2 f), (2, .p 102), (6, .p 106), (7, .p 107), (17, .i (i : Int))], [(ZK0 n s t es), ZK1, (107, .fi (List.set m i (-1)))]⟩ hT (by kernel_rfl) ⟨(by omega), (by omega), (by omega), trivial⟩ ?_
  refine kr [(-9223372036854775808 ≤ (((i + 1) : Nat) : Int) ∧ (((i + 1) : Nat) : Int) ≤ 9223372036854775807)] ⟨168, [(ZK2 f), (2, .p 102), (6, .p 106), (7, .p 107), (17, .i (((i + 1) : Nat) : Int))], [(ZK0 n s t es), ZK1, (107, .fi (List.set m i (-1)))]⟩ hT (by kernel_rfl) ⟨(by omega), trivial⟩ ?_
  refine loop_end _ ?_ ⟨(i + 1), (List.set m i (-1)), ⟨(by omega), (by simp only [lens]; exact hm), (by intro j hj; rcases Nat.lt_succ_iff_lt_or_eq.1 hj with h | h; rw [getD_set_ne _ _ _ _ _ (by omega)]; exact hmi j h; subst h; exact getD_set_self _ _ _ _ (by omega)), rfl⟩, (by kernel_rfl)⟩
  omega
 ·
  try simp only [bs] at c4
  refine awp_exit ?_
  refine kq [(0 < 1), (0 < 1), ((0 : Int) ≤ s), (s < 12), ((Int.toNat s) < m.length)] ⟨168, [(ZK2 f), (2, .p 102), (6, .p 106), (7, .p 107)], [(ZK0 n s t es), ZK1, (107, .fi (List.set m (Int.toNat s) s))]⟩ hT (by kernel_rfl) ⟨(by decide), (by decide), (by omega), (by omega), (by omega), trivial⟩ ?_
  refine awp_seq ?_
  refine kq [(0 < 1)] ⟨168, [(ZK2 f), (2, .p 102), (6, .p 106), (7, .p 107), (9, .w 130 1)], [(ZK0 n s t es), ZK1, (107, .fi (List.set m (Int.toNat s) s)), (130, .fi [s])]⟩ hT (by kernel_rfl) ⟨(by decide), trivial⟩ ?_
  refine awp_block ?_
  have hst := bfs_start (es := es) (f := f) (bs := [(0, false), (0, false), (0, false), (0, false), (0, false), (0, false), (0, false), (0, false), (0, false), (0, false), (0, false), (0, false)]) hm (fun j hj => hmi j (by omega)) h4 h5 h2 rfl
  refine awp_loop (I := fun κ σ => ∃ (fr : List Int) (sp : List (Int × Bool)) (todo : List Int) (r : Nat → Nat) (c : Nat), ((Bfs es f s n fr sp todo r c) ∧ (Closed es f n fr todo) ∧ (negs fr + todo.length ≤ 12) ∧ (c + negs fr ≤ 12) ∧ negs fr + todo.length = κ) ∧ σ = ⟨168, [(ZK2 f), (2, .p 102), (6, .p 106), (7, .p 107), (ZK8 todo)], [(ZK0 n s t es), (106, .flat (.steps sp)), (ZK4 fr), (ZK9 todo)]⟩) _ ⟨(List.set m (Int.toNat s) s), [(0, false), (0, false), (0, false), (0, false), (0, false), (0, false), (0, false), (0, false), (0, false), (0, false), (0, false), (0, false)], [s], (fun _ => 0), 1, ⟨(by exact hst.1), (by exact hst.2.1), (by exact hst.2.2), (by have := hst.2.2; omega), rfl⟩, (by kernel_rfl)⟩ ?_
  rintro κ _ ⟨fr, sp, todo, r, c, ⟨hB, hC, hsz, hcz, rfl⟩, rfl⟩
  have hb01 := hB.l1
  have hb02 := hB.l2
  refine awp_seq ?_
  refine kq [(ZKT (ZKb4 todo)), (ZKL (ZKb4 todo)), (ZKT (ZKb4 todo)), ((ZKb4 todo) = true → ((0 : Int) ≤ t)), ((ZKb4 todo) = true → (t < 12)), (ZKT (ZKb4 todo)), ((ZKb4 todo) = true → ((Int.toNat t) < fr.length)), (ZKT (ZKb4 todo)), (ZKG (ZKb4 todo))] ⟨168, [(ZK2 f), (2, .p 102), (6, .p 106), (7, .p 107), (ZK8 todo), (40, .one (.bool ((decide ((0 : Int) < ((todo.length : Nat) : Int))) && (decide ((List.getD fr (Int.toNat t) 0) < 0)))))], [(ZK0 n s t es), (106, .flat (.steps sp)), (ZK4 fr), (ZK9 todo)]⟩ hT (by kernel_rfl) ⟨(fun _ h => h), (fun _ => by decide), (fun _ h => h), (by intro hg; simp only [bs, ZKb4] at hg; omega), (by intro hg; simp only [bs, ZKb4] at hg; omega), (fun _ h => h), (by intro hg; simp only [bs, ZKb4] at hg; omega), (fun _ h => h), id, trivial⟩ ?_
  refine awp_cond (b := ((decide ((0 : Int) < ((todo.length : Nat) : Int))) && (decide ((List.getD fr (Int.toNat t) 0) < 0)))) (by kernel_rfl) (fun c10 => ?_) (fun c10 => ?_)
  ·
   try simp only [bs] at c10
   refine awp_skip ?_
   refine awp_seq ?_
   refine awp_block ?_
   refine kq [((0 : Int) ≤ (0 : Int)), ((0 : Int) < ((todo.length : Nat) : Int)), (0 < todo.length)] ⟨168, [(ZK2 f), (2, .p 102), (6, .p 106), (7, .p 107), (ZK8 todo), (ZK7 todo)], [(ZK0 n s t es), (106, .flat (.steps sp)), (ZK4 fr), (ZK9 todo)]⟩ hT (by kernel_rfl) ⟨(by omega), (by omega), (by omega), trivial⟩ ?_
   refine kq [(0 < 1)] ⟨168, [(ZK2 f), (2, .p 102), (6, .p 106), (7, .p 107), (ZK8 todo), (ZK7 todo), (47, .one (.ro (.arcs es))), (ZK5 es), (49, .i 0)], [(ZK0 n s t es), (106, .flat (.steps sp)), (ZK4 fr), (ZK9 todo)]⟩ hT (by kernel_rfl) ⟨(by decide), trivial⟩ ?_
   refine awp_block ?_
   refine awp_loop (I := fun κ σ => ∃ (i : Nat) (fr2 : List Int) (bs2 : List (Int × Bool)) (todo2 : List Int) (r2 : Nat → Nat) (c2 : Nat), ((i ≤ es.length) ∧ (Bfs es f s n fr2 bs2 todo2 r2 c2) ∧ (Closed es f n fr2 todo2) ∧ (∀ k b v, Res es f k b (List.getD todo 0 0) v → k < i → 0 ≤ v → v < n → 0 ≤ fr2.getD v.toNat 0) ∧ (negs fr2 + todo2.length = negs fr + todo.length) ∧ (∃ x, todo2 = todo ++ x) ∧ (c2 + negs fr2 ≤ 12) ∧ es.length - i = κ) ∧ σ = ⟨168, [(ZK2 f), (2, .p 102), (6, .p 106), (7, .p 107), (ZK8 todo2), (ZK7 todo), (47, .one (.ro (.arcs es))), (ZK5 es), (ZK10 i)], [(ZK0 n s t es), (106, .flat (.steps bs2)), (ZK4 fr2), (ZK9 todo2)]⟩) _ ⟨0, fr, sp, todo, r, c, ⟨(by omega), (by exact hB), (by exact hC), (by intro k b v hr hk; have := hr.1; omega), (by rfl), (by exact ⟨[], (List.append_nil _).symm⟩), (by exact hcz), rfl⟩, (by kernel_rfl)⟩ ?_
   rintro κ _ ⟨i, fr2, bs2, todo2, r2, c2, ⟨hi, hB2, hC2, hA, hz2, hx2, hc2, rfl⟩, rfl⟩
   refine kq [] ⟨168, [(ZK2 f), (2, .p 102), (6, .p 106), (7, .p 107), (ZK8 todo2), (ZK7 todo), (47, .one (.ro (.arcs es))), (ZK5 es), (ZK10 i), (50, .one (.bool (decide ((i : Int) < ((es.length : Nat) : Int)))))], [(ZK0 n s t es), (106, .flat (.steps bs2)), (ZK4 fr2), (ZK9 todo2)]⟩ hT (by kernel_rfl) trivial ?_
   refine awp_seq ?_
   refine awp_cond (b := (decide ((i : Int) < ((es.length : Nat) : Int)))) (by kernel_rfl) (fun c14 => ?_) (fun c14 => ?_)
   ·
    try simp only [bs] at c14
    have ci : i < es.length := by omega
    obtain ⟨a1, a2, a3, a4, a5, a6⟩ := hok.at_ ci
    have hfi := hf.at_ i ci
    have hat := hB2.todo_ (List.getD todo 0 0) (by obtain ⟨x, hx⟩ := hx2; rw [hx]; exact List.mem_append_left _ (getD_mem (by omega)))
    have hl16 : (es.getD i default).dst.toNat < fr2.length := by have := hB2.l1; omega
    have hit : (i : Int).toNat = i := by omega
    have hb1 := hB2.l1
    have hb2 := hB2.l2
    have hlf := hf.len
    refine awp_skip ?_
    refine awp_seq ?_
    refine awp_block ?_
    refine kq [((0 : Int) ≤ (i : Int)), ((i : Int) < ((es.length : Nat) : Int)), (0 < 1)] ⟨168, [(ZK2 f), (2, .p 102), (6, .p 106), (7, .p 107), (ZK8 todo2), (ZK7 todo), (ZK13 i), (12, .p 112), (47, .one (.ro (.arcs es))), (ZK5 es), (ZK10 i)], [(ZK0 n s t es), (106, .flat (.steps bs2)), (ZK4 fr2), (ZK3 es i), (ZK9 todo2)]⟩ hT (by kernel_rfl) ⟨(by omega), (by omega), (by decide), trivial⟩ ?_
    refine awp_seq ?_
    refine awp_seq (awp_still [1, 2, 6, 7, 9, 10, 11, 12, 47, 48, 49, 73] [102, 106, 107, 112, 130] [(0 < 1), (ZKT (ZKb2 es i todo)), (ZKT (ZKb2 es i todo)), ((ZKb2 es i todo) = true → ((0 : Int) ≤ (i : Int))), ((ZKb2 es i todo) = true → ((i : Int) < ((f.length : Nat) : Int))), (ZKT (ZKb2 es i todo)), (ZKT (ZKb2 es i todo)), (ZKL (ZKb2 es i todo)), (ZKT (ZKb2 es i todo)), (ZKT (ZKb2 es i todo)), (ZKG (ZKb2 es i todo)), (ZKT (ZKb0 es i todo f)), (ZKL (ZKb0 es i todo f)), (ZKT (ZKb0 es i todo f)), ((ZKb0 es i todo f) = true → ((0 : Int) ≤ ((List.getD es i default).dst))), ((ZKb0 es i todo f) = true → (((List.getD es i default).dst) < 12)), (ZKT (ZKb0 es i todo f)), ((ZKb0 es i todo f) = true → ((Int.toNat ((List.getD es i default).dst)) < fr2.length)), (ZKT (ZKb0 es i todo f)), (ZKG (ZKb0 es i todo f))] ⟨168, [(ZK2 f), (2, .p 102), (6, .p 106), (7, .p 107), (ZK8 todo2), (ZK7 todo), (ZK13 i), (12, .p 112), (47, .one (.ro (.arcs es))), (ZK5 es), (ZK10 i), (73, .one (.bool (((decide (((List.getD es i default).src) = (List.getD todo 0 0))) && (decide ((List.getD f i 0) < ((List.getD es i default).cap)))) && (decide ((List.getD fr2 (Int.toNat ((List.getD es i default).dst)) 0) < 0)))))], [(ZK0 n s t es), (106, .flat (.steps bs2)), (ZK4 fr2), (ZK3 es i), (ZK9 todo2)]⟩ (by kernel_rfl) (by kernel_rfl) hT (by kernel_rfl) ⟨(by decide), (fun _ h => h), (fun _ h => h), (by intro hg; simp only [bs, ZKb0, ZKb2] at hg; omega), (by intro hg; simp only [bs, ZKb0, ZKb2] at hg; omega), (fun _ h => h), (fun _ h => h), (fun _ => by decide), (fun _ h => h), (fun _ h => h), id, (fun _ h => h), (fun _ => by decide), (fun _ h => h), (by intro hg; simp only [bs, ZKb0, ZKb2] at hg; omega), (by intro hg; simp only [bs, ZKb0, ZKb2] at hg; omega), (fun _ h => h), (by intro hg; simp only [bs, ZKb0, ZKb2] at hg; omega), (fun _ h => h), id, trivial⟩ ?_)
    refine awp_join_tail (fun σ => ∃ (fr3 : List Int) (bs3 : List (Int × Bool)) (todo3 : List Int) (r3 : Nat → Nat) (c3 : Nat), (Bfs es f s n fr3 bs3 todo3 r3 c3) ∧ (Closed es f n fr3 todo3) ∧ (∀ k b v, Res es f k b (List.getD todo 0 0) v → (k < i ∨ k = i ∧ b = false) → 0 ≤ v → v < n → 0 ≤ fr3.getD v.toNat 0) ∧ (negs fr3 + todo3.length = negs fr + todo.length) ∧ (∃ x, todo3 = todo ++ x) ∧ (c3 + negs fr3 ≤ 12) ∧ σ = ⟨168, [(ZK2 f), (2, .p 102), (6, .p 106), (7, .p 107), (ZK8 todo3), (ZK7 todo), (ZK13 i), (12, .p 112), (47, .one (.ro (.arcs es))), (ZK5 es), (ZK10 i)], [(ZK0 n s t es), (106, .flat (.steps bs3)), (ZK4 fr3), (ZK3 es i), (ZK9 todo3)]⟩) ?_ ?_
    ·
     refine awp_cond (b := (((decide (((List.getD es i default).src) = (List.getD todo 0 0))) && (decide ((List.getD f i 0) < ((List.getD es i default).cap)))) && (decide ((List.getD fr2 (Int.toNat ((List.getD es i default).dst)) 0) < 0)))) (by kernel_rfl) (fun c16 => ?_) (fun c16 => ?_)
     ·
      try simp only [bs] at c16
      have hr16 : Res es f (i : Int) false (List.getD todo 0 0) (es.getD i default).dst := ⟨by omega, by omega, by simp only [Bool.false_eq_true, if_false]; rw [hit]; exact ⟨c16.1.1, rfl, c16.1.2⟩⟩
      have hv16 := hB2.visit h2 h4 hat.1 hat.2.1 hat.2.2 a3 a4 c16.2 hr16 h5
      have hA16 : ∀ k b v, Res es f k b (List.getD todo 0 0) v → (k < i ∨ k = i ∧ b = false) → 0 ≤ v → v < n → 0 ≤ (fr2.set (es.getD i default).dst.toNat (List.getD todo 0 0)).getD v.toNat 0 := by
       intro k b v hr hk v0 v1
       rcases hk with hk | ⟨rfl, rfl⟩
       ·exact found_visit hat.1 hl16 (hA k b v hr hk v0 v1)
       ·have he := hr.2.2
        simp only [Bool.false_eq_true, if_false] at he
        rw [hit] at he
        rw [← he.2.1, getD_set_self _ _ _ _ hl16]
        exact hat.1
      refine awp_seq (awp_any [] false [1, 2, 6, 7, 9, 10, 11, 12, 47, 48, 49] [102, 106, 107, 112, 130] 12 [(0, []), (1, [(0 < 1)]), (2, []), (3, [(0 < 1)]), (4, []), (5, []), (6, []), (7, [((0 : Int) ≤ ((List.getD es i default).dst)), (((List.getD es i default).dst) < 12)]), (8, [((Int.toNat ((List.getD es i default).dst)) < fr2.length)]), (9, [((0 : Int) ≤ ((List.getD es i default).dst)), (((List.getD es i default).dst) < 12)]), (10, [((Int.toNat ((List.getD es i default).dst)) < bs2.length)])] ⟨168, [(ZK2 f), (2, .p 102), (6, .p 106), (7, .p 107), (ZK8 todo2), (ZK7 todo), (ZK13 i), (12, .p 112), (47, .one (.ro (.arcs es))), (ZK5 es), (ZK10 i)], [(ZK0 n s t es), (106, .flat (.steps (List.set bs2 (Int.toNat ((List.getD es i default).dst)) ((i : Int), false)))), (107, .fi (List.set fr2 (Int.toNat ((List.getD es i default).dst)) (List.getD todo 0 0))), (ZK3 es i), (ZK9 todo2)]⟩ (by kernel_rfl) (by kernel_rfl) hT (by kernel_rfl) ⟨trivial, ⟨(by decide), trivial⟩, trivial, ⟨(by decide), trivial⟩, trivial, trivial, trivial, ⟨(by omega), (by omega), trivial⟩, ⟨(by omega), trivial⟩, ⟨(by omega), (by omega), trivial⟩, ⟨(by omega), trivial⟩, trivial⟩ ?_)
      refine kr [(0 < 1), (todo2.length = todo2.length), ((todo2.length + 1) * 8 ≤ 140737488355328), ((todo2.length + 1) ≤ 9223372036854775807)] ⟨168, [(ZK2 f), (2, .p 102), (6, .p 106), (7, .p 107), (9, .w 130 (todo2.length + 1)), (ZK7 todo), (ZK13 i), (12, .p 112), (47, .one (.ro (.arcs es))), (ZK5 es), (ZK10 i)], [(ZK0 n s t es), (106, .flat (.steps (List.set bs2 (Int.toNat ((List.getD es i default).dst)) ((i : Int), false)))), (107, .fi (List.set fr2 (Int.toNat ((List.getD es i default).dst)) (List.getD todo 0 0))), (ZK3 es i), (130, .fi (todo2 ++ [((List.getD es i default).dst)]))]⟩ hT (by kernel_rfl) ⟨(by decide), (by omega), (by omega), (by omega), trivial⟩ ?_
      exact jend ⟨(List.set fr2 (Int.toNat ((List.getD es i default).dst)) (List.getD todo 0 0)), (List.set bs2 (Int.toNat ((List.getD es i default).dst)) ((i : Int), false)), (todo2 ++ [((List.getD es i default).dst)]), (fun x => if x = (es.getD i default).dst.toNat then c2 else r2 x), (c2 + 1), (by exact hv16), (by exact hC2.visit hat.1 a3 hl16), (by exact hA16), (by have := negs_set hl16 c16.2 hat.1; simp only [ZK0, ZK1, ZK2, ZK3, ZK4, ZK5, ZK6, ZK7, ZK8, ZK9, ZK10, ZK11, ZK12, ZK13, ZK14, lens]; omega), (by obtain ⟨x, hx⟩ := hx2; exact ⟨x ++ [(es.getD i default).dst], by rw [hx, List.append_assoc]⟩), (by have := negs_set hl16 c16.2 hat.1; omega), (by first | (simp only [ZK0, ZK1, ZK2, ZK3, ZK4, ZK5, ZK6, ZK7, ZK8, ZK9, ZK10, ZK11, ZK12, ZK13, ZK14, lens]; done) | (simp only [Nat.zero_add]; done) | simp only [ZK0, ZK1, ZK2, ZK3, ZK4, ZK5, ZK6, ZK7, ZK8, ZK9, ZK10, ZK11, ZK12, ZK13, ZK14, lens, Nat.zero_add])⟩
     ·
      try simp only [bs] at c16
      have hA16 : ∀ k b v, Res es f k b (List.getD todo 0 0) v → (k < i ∨ k = i ∧ b = false) → 0 ≤ v → v < n → 0 ≤ fr2.getD v.toNat 0 := by
       intro k b v hr hk v0 v1
       rcases hk with hk | ⟨rfl, rfl⟩
       ·exact hA k b v hr hk v0 v1
       ·have he := hr.2.2
        simp only [Bool.false_eq_true, if_false] at he
        rw [hit] at he
        rw [← he.2.1]
        omega
      refine kv ⟨168, [(ZK2 f), (2, .p 102), (6, .p 106), (7, .p 107), (ZK8 todo2), (ZK7 todo), (ZK13 i), (12, .p 112), (47, .one (.ro (.arcs es))), (ZK5 es), (ZK10 i)], [(ZK0 n s t es), (106, .flat (.steps bs2)), (ZK4 fr2), (ZK3 es i), (ZK9 todo2)]⟩ (by kernel_rfl) ?_
      refine awp_skip ?_
      exact jend ⟨fr2, bs2, todo2, r2, c2, (by exact hB2), (by exact hC2), (by exact hA16), (by exact hz2), (by exact hx2), (by exact hc2), (by kernel_rfl)⟩
    rintro _ ⟨fr3, bs3, todo3, r3, c3, hB3, hC3, hA3, hz3, hx3, hc3, rfl⟩
    have hat3 := hB3.todo_ (List.getD todo 0 0) (by obtain ⟨x, hx⟩ := hx3; rw [hx]; exact List.mem_append_left _ (getD_mem (by omega)))
    have hl19 : (es.getD i default).src.toNat < fr3.length := by have := hB3.l1; omega
    have hb3 := hB3.l1
    have hb4 := hB3.l2
    refine kq [(0 < 1), (ZKT (ZKb3 es i todo)), (ZKT (ZKb3 es i todo)), ((ZKb3 es i todo) = true → ((0 : Int) ≤ (i : Int))), ((ZKb3 es i todo) = true → ((i : Int) < ((f.length : Nat) : Int))), (ZKT (ZKb3 es i todo)), (ZKT (ZKb3 es i todo)), (ZKG (ZKb3 es i todo)), (ZKT (ZKb1 es i todo f)), (ZKL (ZKb1 es i todo f)), (ZKT (ZKb1 es i todo f)), ((ZKb1 es i todo f) = true → ((0 : Int) ≤ ((List.getD es i default).src))), ((ZKb1 es i todo f) = true → (((List.getD es i default).src) < 12)), (ZKT (ZKb1 es i todo f)), ((ZKb1 es i todo f) = true → ((Int.toNat ((List.getD es i default).src)) < fr3.length)), (ZKT (ZKb1 es i todo f)), (ZKG (ZKb1 es i todo f))] ⟨168, [(ZK2 f), (2, .p 102), (6, .p 106), (7, .p 107), (ZK8 todo3), (ZK7 todo), (ZK13 i), (12, .p 112), (47, .one (.ro (.arcs es))), (ZK5 es), (ZK10 i), (105, .one (.bool (((decide (((List.getD es i default).dst) = (List.getD todo 0 0))) && (decide ((0 : Int) < (List.getD f i 0)))) && (decide ((List.getD fr3 (Int.toNat ((List.getD es i default).src)) 0) < 0)))))], [(ZK0 n s t es), (106, .flat (.steps bs3)), (ZK4 fr3), (ZK3 es i), (ZK9 todo3)]⟩ hT (by kernel_rfl) ⟨(by decide), (fun _ h => h), (fun _ h => h), (by intro hg; simp only [bs, ZKb1, ZKb3] at hg; omega), (by intro hg; simp only [bs, ZKb1, ZKb3] at hg; omega), (fun _ h => h), (fun _ h => h), id, (fun _ h => h), (fun _ => by decide), (fun _ h => h), (by intro hg; simp only [bs, ZKb1, ZKb3] at hg; omega), (by intro hg; simp only [bs, ZKb1, ZKb3] at hg; omega), (fun _ h => h), (by intro hg; simp only [bs, ZKb1, ZKb3] at hg; omega), (fun _ h => h), id, trivial⟩ ?_
    refine awp_join_any (fun σ => ∃ (fr4 : List Int) (bs4 : List (Int × Bool)) (todo4 : List Int) (r4 : Nat → Nat) (c4 : Nat), (Bfs es f s n fr4 bs4 todo4 r4 c4) ∧ (Closed es f n fr4 todo4) ∧ (∀ k b v, Res es f k b (List.getD todo 0 0) v → k < ((i + 1 : Nat) : Int) → 0 ≤ v → v < n → 0 ≤ fr4.getD v.toNat 0) ∧ (negs fr4 + todo4.length = negs fr + todo.length) ∧ (∃ x, todo4 = todo ++ x) ∧ (c4 + negs fr4 ≤ 12) ∧ σ = ⟨168, [(ZK2 f), (2, .p 102), (6, .p 106), (7, .p 107), (ZK8 todo4), (ZK7 todo), (47, .one (.ro (.arcs es))), (ZK5 es), (ZK10 i)], [(ZK0 n s t es), (106, .flat (.steps bs4)), (ZK4 fr4), (ZK9 todo4)]⟩) ?_ ?_
    ·
     refine awp_cond (b := (((decide (((List.getD es i default).dst) = (List.getD todo 0 0))) && (decide ((0 : Int) < (List.getD f i 0)))) && (decide ((List.getD fr3 (Int.toNat ((List.getD es i default).src)) 0) < 0)))) (by kernel_rfl) (fun c19 => ?_) (fun c19 => ?_)
     ·
      try simp only [bs] at c19
      have hr19 : Res es f (i : Int) true (List.getD todo 0 0) (es.getD i default).src := ⟨by omega, by omega, by simp only [if_true]; rw [hit]; exact ⟨c19.1.1, rfl, c19.1.2⟩⟩
      have hv19 := hB3.visit h2 h4 hat3.1 hat3.2.1 hat3.2.2 a1 a2 c19.2 hr19 h5
      have hA19 : ∀ k b v, Res es f k b (List.getD todo 0 0) v → k < ((i + 1 : Nat) : Int) → 0 ≤ v → v < n → 0 ≤ (fr3.set (es.getD i default).src.toNat (List.getD todo 0 0)).getD v.toNat 0 := by
       intro k b v hr hk v0 v1
       by_cases hk2 : k < i ∨ k = i ∧ b = false
       ·exact found_visit hat3.1 hl19 (hA3 k b v hr hk2 v0 v1)
       ·have hk3 : k = i := by omega
        have hb5 : b = true := by cases b; exact absurd (Or.inr ⟨hk3, rfl⟩) hk2; rfl
        subst hb5
        have he := hr.2.2
        simp only [if_true] at he
        rw [hk3, hit] at he
        rw [← he.2.1, getD_set_self _ _ _ _ hl19]
        exact hat3.1
      refine awp_seq (awp_any [] false [1, 2, 6, 7, 9, 10, 12, 47, 48, 49] [102, 106, 107, 112, 130] 12 [(0, []), (1, [(0 < 1)]), (2, []), (3, [(0 < 1)]), (4, []), (5, []), (6, []), (7, [((0 : Int) ≤ ((List.getD es i default).src)), (((List.getD es i default).src) < 12)]), (8, [((Int.toNat ((List.getD es i default).src)) < fr3.length)]), (9, [((0 : Int) ≤ ((List.getD es i default).src)), (((List.getD es i default).src) < 12)]), (10, [((Int.toNat ((List.getD es i default).src)) < bs3.length)])] ⟨168, [(ZK2 f), (2, .p 102), (6, .p 106), (7, .p 107), (ZK8 todo3), (ZK7 todo), (12, .p 112), (47, .one (.ro (.arcs es))), (ZK5 es), (ZK10 i)], [(ZK0 n s t es), (106, .flat (.steps (List.set bs3 (Int.toNat ((List.getD es i default).src)) ((i : Int), true)))), (107, .fi (List.set fr3 (Int.toNat ((List.getD es i default).src)) (List.getD todo 0 0))), (ZK3 es i), (ZK9 todo3)]⟩ (by kernel_rfl) (by kernel_rfl) hT (by kernel_rfl) ⟨trivial, ⟨(by decide), trivial⟩, trivial, ⟨(by decide), trivial⟩, trivial, trivial, trivial, ⟨(by omega), (by omega), trivial⟩, ⟨(by omega), trivial⟩, ⟨(by omega), (by omega), trivial⟩, ⟨(by omega), trivial⟩, trivial⟩ ?_)
      refine kr [(0 < 1), (todo3.length = todo3.length), ((todo3.length + 1) * 8 ≤ 140737488355328), ((todo3.length + 1) ≤ 9223372036854775807)] ⟨168, [(ZK2 f), (2, .p 102), (6, .p 106), (7, .p 107), (9, .w 130 (todo3.length + 1)), (ZK7 todo), (47, .one (.ro (.arcs es))), (ZK5 es), (ZK10 i)], [(ZK0 n s t es), (106, .flat (.steps (List.set bs3 (Int.toNat ((List.getD es i default).src)) ((i : Int), true)))), (107, .fi (List.set fr3 (Int.toNat ((List.getD es i default).src)) (List.getD todo 0 0))), (130, .fi (todo3 ++ [((List.getD es i default).src)]))]⟩ hT (by kernel_rfl) ⟨(by decide), (by omega), (by omega), (by omega), trivial⟩ ?_
      exact jend ⟨(List.set fr3 (Int.toNat ((List.getD es i default).src)) (List.getD todo 0 0)), (List.set bs3 (Int.toNat ((List.getD es i default).src)) ((i : Int), true)), (todo3 ++ [((List.getD es i default).src)]), (fun x => if x = (es.getD i default).src.toNat then c3 else r3 x), (c3 + 1), (by exact hv19), (by exact hC3.visit hat3.1 a1 hl19), (by exact hA19), (by have := negs_set hl19 c19.2 hat3.1; simp only [ZK0, ZK1, ZK2, ZK3, ZK4, ZK5, ZK6, ZK7, ZK8, ZK9, ZK10, ZK11, ZK12, ZK13, ZK14, lens]; omega), (by obtain ⟨x, hx⟩ := hx3; exact ⟨x ++ [(es.getD i default).src], by rw [hx, List.append_assoc]⟩), (by have := negs_set hl19 c19.2 hat3.1; omega), (by first | (simp only [ZK0, ZK1, ZK2, ZK3, ZK4, ZK5, ZK6, ZK7, ZK8, ZK9, ZK10, ZK11, ZK12, ZK13, ZK14, lens]; done) | (simp only [Nat.zero_add]; done) | simp only [ZK0, ZK1, ZK2, ZK3, ZK4, ZK5, ZK6, ZK7, ZK8, ZK9, ZK10, ZK11, ZK12, ZK13, ZK14, lens, Nat.zero_add])⟩
     ·
      try simp only [bs] at c19
      have hA19 : ∀ k b v, Res es f k b (List.getD todo 0 0) v → k < ((i + 1 : Nat) : Int) → 0 ≤ v → v < n → 0 ≤ fr3.getD v.toNat 0 := by
       intro k b v hr hk v0 v1
       by_cases hk2 : k < i ∨ k = i ∧ b = false
       ·exact hA3 k b v hr hk2 v0 v1
       ·have hk3 : k = i := by omega
        have hb5 : b = true := by cases b; exact absurd (Or.inr ⟨hk3, rfl⟩) hk2; rfl
        subst hb5
        have he := hr.2.2
        simp only [if_true] at he
        rw [hk3, hit] at he
        rw [← he.2.1]
        omega
      refine kv ⟨168, [(ZK2 f), (2, .p 102), (6, .p 106), (7, .p 107), (ZK8 todo3), (ZK7 todo), (47, .one (.ro (.arcs es))), (ZK5 es), (ZK10 i)], [(ZK0 n s t es), (106, .flat (.steps bs3)), (ZK4 fr3), (ZK9 todo3)]⟩ (by kernel_rfl) ?_
      refine awp_skip ?_
      exact jend ⟨fr3, bs3, todo3, r3, c3, (by exact hB3), (by exact hC3), (by exact hA19), (by exact hz3), (by exact hx3), (by exact hc3), (by kernel_rfl)⟩
    rintro _ ⟨fr4, bs4, todo4, r4, c4, hB4, hC4, hA4, hz4, hx4, hc4, rfl⟩
    refine kr [(-9223372036854775808 ≤ (((i + 1) : Nat) : Int) ∧ (((i + 1) : Nat) : Int) ≤ 9223372036854775807)] ⟨168, [(ZK2 f), (2, .p 102), (6, .p 106), (7, .p 107), (ZK8 todo4), (ZK7 todo), (47, .one (.ro (.arcs es))), (ZK5 es), (49, .i (((i + 1) : Nat) : Int))], [(ZK0 n s t es), (106, .flat (.steps bs4)), (ZK4 fr4), (ZK9 todo4)]⟩ hT (by kernel_rfl) ⟨(by omega), trivial⟩ ?_
    refine loop_end _ ?_ ⟨(i + 1), fr4, bs4, todo4, r4, c4, ⟨(by omega), (by exact hB4), (by exact hC4), (by exact hA4), (by exact hz4), (by exact hx4), (by exact hc4), rfl⟩, (by kernel_rfl)⟩
    omega
   ·
    try simp only [bs] at c14
    have hCn : Closed es f n fr2 (todo2.drop 1) := by
     obtain ⟨x, hx⟩ := hx2
     subst hx
     exact hC2.next (by omega) (fun k b v hr v0 v1 => hA k b v hr (by have := hr.2.1; omega) v0 v1)
    have hBn : Bfs es f s n fr2 bs2 (todo2.drop 1) r2 c2 := ⟨hB2.l1, hB2.l2, hB2.src, hB2.lo, hB2.vis, fun u hu => hB2.todo_ u (List.mem_of_mem_drop hu)⟩
    have hpos : 0 < todo2.length := by obtain ⟨x, hx⟩ := hx2; rw [hx]; simp only [lens]; omega
    refine awp_exit ?_
    refine awp_region ?_
    refine ko 2 [((0 : Int) ≤ 1), ((1 : Int) ≤ ((todo2.length : Nat) : Int)), (((todo2.length : Nat) : Int) ≤ ((todo2.length : Nat) : Int))] ⟨168, [(ZK2 f), (2, .p 102), (6, .p 106), (7, .p 107), (42, .one (.rw 130 1 (todo2.length - 1)))], [(ZK0 n s t es), (106, .flat (.steps bs2)), (ZK4 fr2), (ZK9 todo2)]⟩ hT (by kernel_rfl) (by kernel_rfl) ⟨(by omega), (by omega), (by omega), trivial⟩ ?_
    refine aops_weak (awk_shift 130 42 1 (todo2.length - 1) (.ints .i64 todo2) (.ints .i64 (List.drop 1 todo2)) _ (by kernel_rfl) (by kernel_rfl) (by decide) (drop_ok (by omega)).1 rfl (drop_ok (by omega)).2) ?_
    refine ku ⟨168, [(ZK2 f), (2, .p 102), (6, .p 106), (7, .p 107), (42, .w 130 (todo2.length - 1))], [(ZK0 n s t es), (106, .flat (.steps bs2)), (ZK4 fr2), (130, .fi (List.drop 1 todo2))]⟩ (by kernel_rfl) ?_
    refine ko 1 [] ⟨168, [(ZK2 f), (2, .p 102), (6, .p 106), (7, .p 107), (9, .w 130 (todo2.length - 1))], [(ZK0 n s t es), (106, .flat (.steps bs2)), (ZK4 fr2), (130, .fi (List.drop 1 todo2))]⟩ hT (by kernel_rfl) (by kernel_rfl) trivial ?_
    refine aops_end (by kernel_rfl) ?_
    refine loop_end _ ?_ ⟨fr2, bs2, (List.drop 1 todo2), r2, c2, ⟨(by exact hBn), (by exact hCn), (by simp only [ZK0, ZK1, ZK2, ZK3, ZK4, ZK5, ZK6, ZK7, ZK8, ZK9, ZK10, ZK11, ZK12, ZK13, ZK14, lens]; omega), (by exact hc2), rfl⟩, (by first | (simp only [ZK0, ZK1, ZK2, ZK3, ZK4, ZK5, ZK6, ZK7, ZK8, ZK9, ZK10, ZK11, ZK12, ZK13, ZK14, lens]; done) | (simp only [Nat.zero_add]; done) | simp only [ZK0, ZK1, ZK2, ZK3, ZK4, ZK5, ZK6, ZK7, ZK8, ZK9, ZK10, ZK11, ZK12, ZK13, ZK14, lens, Nat.zero_add])⟩
    simp only [lens]; omega
  ·
   try simp only [bs] at c10
   refine awp_exit ?_
   refine awp_seq ?_
   refine kq [(0 < 1), ((0 : Int) ≤ t), (t < 12), ((Int.toNat t) < fr.length)] ⟨168, [(ZK2 f), (2, .p 102), (6, .p 106), (7, .p 107), (125, .one (.bool (decide ((List.getD fr (Int.toNat t) 0) < 0))))], [(ZK0 n s t es), (106, .flat (.steps sp)), (ZK4 fr)]⟩ hT (by kernel_rfl) ⟨(by decide), (by omega), (by omega), (by omega), trivial⟩ ?_
   refine awp_cond (b := (decide ((List.getD fr (Int.toNat t) 0) < 0))) (by kernel_rfl) (fun c23 => ?_) (fun c23 => ?_)
   ·
    try simp only [bs] at c23
    have htd : todo = [] := List.eq_nil_of_length_eq_zero (by omega)
    have hB0 : Bfs es f s n fr sp [] r c := htd ▸ hB
    have hC0 : Closed es f n fr [] := htd ▸ hC
    refine kq [] ⟨168, [(4, .one .nils), (5, .i 0)], []⟩ hT (by kernel_rfl) trivial ?_
    refine awp_weak (awk_empty 5004 (.flat (.steps [])) rfl (by decide) _) ?_
    refine awp_weak (awk_slot 4 (.one .nils) (.w 5004 0) _ (by kernel_rfl) (.one (wkv_nils (o := .flat (.steps [])) (by kernel_rfl)))) ?_
    refine awp_weak (awk_ren 5004 9001 (s' := ⟨168, [(4, .w 9001 0), (5, .i 0)], [(9001, .flat (.steps []))]⟩) (by kernel_rfl)) ?_
    refine awp_ret ?_
    refine kRet.ret _ [9001] [] (.tup [(false, [(.w 9001 0)]), (false, [(.i 0)])]) [(9001, .flat (.steps []))] (by kernel_rfl) trivial ?_
    exact ⟨[], 0, (by exact .inl ⟨rfl, rfl, hB0.shut hok hf hC0 c23⟩), (by kernel_rfl), (by kernel_rfl)⟩
   ·
    try simp only [bs] at c23
    refine awp_skip ?_
    refine kq [] ⟨168, [(ZK2 f), (2, .p 102), (6, .p 106), (7, .p 107), (13, .one .nils)], [(ZK0 n s t es), (106, .flat (.steps sp)), (ZK4 fr)]⟩ hT (by kernel_rfl) trivial ?_
    refine kq [] ⟨168, [(ZK2 f), (2, .p 102), (6, .p 106), (7, .p 107), (13, .one .nils), (14, .i 10000)], [(ZK0 n s t es), (106, .flat (.steps sp)), (ZK4 fr)]⟩ hT (by kernel_rfl) trivial ?_
    refine awp_seq ?_
    refine kq [(0 < 1)] ⟨168, [(ZK2 f), (2, .p 102), (6, .p 106), (7, .p 107), (13, .one .nils), (14, .i 10000), (15, .i t)], [(ZK0 n s t es), (106, .flat (.steps sp)), (ZK4 fr)]⟩ hT (by kernel_rfl) ⟨(by decide), trivial⟩ ?_
    refine awp_block ?_
    refine awp_weak (awk_empty 5013 (.flat (.steps [])) rfl (by decide) _) ?_
    refine awp_weak (awk_slot 13 (.one .nils) (.w 5013 0) _ (by kernel_rfl) (.one (wkv_nils (o := .flat (.steps [])) (by kernel_rfl)))) ?_
    refine awp_loop (I := fun κ σ => ∃ (a : Int) (l : List (Int × Bool)) (room : Int), ((0 ≤ a ∧ a < n ∧ 0 ≤ fr.getD a.toNat 0) ∧ (ChainB es f t l a) ∧ (Once l) ∧ (Above es r a l) ∧ (0 < room ∧ room ≤ 10000) ∧ (∀ p ∈ l, room ≤ room1 es f p) ∧ (l.length + r a.toNat ≤ 12) ∧ r a.toNat = κ) ∧ σ = ⟨168, [(ZK2 f), (2, .p 102), (6, .p 106), (7, .p 107), (13, .w 5013 l.length), (14, .i room), (15, .i a)], [(ZK0 n s t es), (106, .flat (.steps sp)), (ZK4 fr), (5013, .flat (.steps l))]⟩) _ ⟨t, [], 10000, ⟨(by omega), (by rfl), (by trivial), (by intro p hp; cases hp), (by omega), (by intro p hp; cases hp), (by have := (hB.vis t.toNat (by omega) (by omega)).2.2.2.1; simp only [lens]; omega), rfl⟩, (by kernel_rfl)⟩ ?_
    rintro κ _ ⟨a, l, room, ⟨ha, hch, honce, hab, hroom, hrm, hln, rfl⟩, rfl⟩
    refine awp_seq ?_
    refine kq [(0 < 1)] ⟨168, [(ZK2 f), (2, .p 102), (6, .p 106), (7, .p 107), (13, .w 5013 l.length), (14, .i room), (15, .i a), (131, .one (.bool (decide (a ≠ s))))], [(ZK0 n s t es), (106, .flat (.steps sp)), (ZK4 fr), (5013, .flat (.steps l))]⟩ hT (by kernel_rfl) ⟨(by decide), trivial⟩ ?_
    refine awp_cond (b := (decide (a ≠ s))) (by kernel_rfl) (fun c28 => ?_) (fun c28 => ?_)
    ·
     try simp only [bs] at c28
     have hva := hB.vis a.toNat (by omega) ha.2.2
     have hvv := hva.2.2.2.2 (by omega)
     have hres := hvv.1
     have hlt := hvv.2
     rw [show ((a.toNat : Nat) : Int) = a by omega] at hres
     have hpos := hres.pos
     have hsn := hab.snoc hres hlt
     have hk0 := hres.1
     have hk1 := hres.2.1
     have hfk := hf.at_ (sp.getD a.toNat (0, false)).1.toNat (by omega)
     obtain ⟨_, _, _, _, _, hcap⟩ := hok.at_ (i := (sp.getD a.toNat (0, false)).1.toNat) (by omega)
     have hlf := hf.len
     refine awp_skip ?_
     refine awp_seq ?_
     refine awp_block ?_
     refine kq [((0 : Int) ≤ a), (a < 12), ((Int.toNat a) < sp.length), (0 < 1)] ⟨168, [(ZK2 f), (2, .p 102), (6, .p 106), (7, .p 107), (13, .w 5013 l.length), (14, .i room), (15, .i a), (16, .p 116)], [(ZK0 n s t es), (106, .flat (.steps sp)), (ZK4 fr), (ZK11 sp a), (5013, .flat (.steps l))]⟩ hT (by kernel_rfl) ⟨(by omega), (by omega), (by omega), (by decide), trivial⟩ ?_
     refine kq [(0 < 1), (l.length = l.length), ((l.length + 1) * 16 ≤ 140737488355328), ((l.length + 1) ≤ 9223372036854775807)] ⟨168, [(ZK2 f), (2, .p 102), (6, .p 106), (7, .p 107), (ZK12 l), (14, .i room), (15, .i a), (16, .p 116)], [(ZK0 n s t es), (106, .flat (.steps sp)), (ZK4 fr), (ZK11 sp a), (ZK6 l sp a)]⟩ hT (by kernel_rfl) ⟨(by decide), (by omega), (by omega), (by omega), trivial⟩ ?_
     refine kq [(0 < 1)] ⟨168, [(ZK2 f), (2, .p 102), (6, .p 106), (7, .p 107), (ZK12 l), (14, .i room), (15, .i a), (16, .p 116), (143, .one (.bool ((List.getD sp (Int.toNat a) (0, false)).2)))], [(ZK0 n s t es), (106, .flat (.steps sp)), (ZK4 fr), (ZK11 sp a), (ZK6 l sp a)]⟩ hT (by kernel_rfl) ⟨(by decide), trivial⟩ ?_
     refine awp_cond (b := ((List.getD sp (Int.toNat a) (0, false)).2)) (by kernel_rfl) (fun c32 => ?_) (fun c32 => ?_)
     ·
      try simp only [bs] at c32
      have hrm1 : room1 es f ((sp.getD a.toNat (0, false)).1, (sp.getD a.toNat (0, false)).2) = f.getD (sp.getD a.toNat (0, false)).1.toNat 0 := if_pos c32
      rw [hrm1] at hpos
      refine kr [(0 < 1), ((0 : Int) ≤ ((List.getD sp (Int.toNat a) (0, false)).1)), (((List.getD sp (Int.toNat a) (0, false)).1) < ((f.length : Nat) : Int))] ⟨168, [(ZK2 f), (2, .p 102), (6, .p 106), (7, .p 107), (ZK12 l), (14, .i (min room (List.getD f (Int.toNat ((List.getD sp (Int.toNat a) (0, false)).1)) 0))), (15, .i a)], [(ZK0 n s t es), (106, .flat (.steps sp)), (ZK4 fr), (ZK6 l sp a)]⟩ hT (by kernel_rfl) ⟨(by decide), (by omega), (by omega), trivial⟩ ?_
      refine kr [((0 : Int) ≤ a), (a < 12), ((Int.toNat a) < fr.length)] ⟨168, [(ZK2 f), (2, .p 102), (6, .p 106), (7, .p 107), (ZK12 l), (14, .i (min room (List.getD f (Int.toNat ((List.getD sp (Int.toNat a) (0, false)).1)) 0))), (15, .i (List.getD fr (Int.toNat a) 0))], [(ZK0 n s t es), (106, .flat (.steps sp)), (ZK4 fr), (ZK6 l sp a)]⟩ hT (by kernel_rfl) ⟨(by omega), (by omega), (by omega), trivial⟩ ?_
      refine loop_end _ ?_ ⟨(List.getD fr (Int.toNat a) 0), (l ++ [(((List.getD sp (Int.toNat a) (0, false)).1), ((List.getD sp (Int.toNat a) (0, false)).2))]), (min room (List.getD f (Int.toNat ((List.getD sp (Int.toNat a) (0, false)).1)) 0)), ⟨(by exact ⟨ha.2.2, hva.2.1, hva.2.2.1⟩), (by exact hch.snoc hres), (by exact honce.snoc hsn.2), (by exact hsn.1), (by omega), (by intro p hp; rcases List.mem_append.1 hp with hp | hp; have := hrm p hp; omega; rw [List.mem_singleton] at hp; subst hp; rw [hrm1]; omega), (by simp only [lens]; omega), rfl⟩, (by first | (simp only [lens]; done) | (simp only [Nat.zero_add]; done) | simp only [lens, Nat.zero_add])⟩
      omega
     ·
      try simp only [bs] at c32
      have hrm1 : room1 es f ((sp.getD a.toNat (0, false)).1, (sp.getD a.toNat (0, false)).2) = (es.getD (sp.getD a.toNat (0, false)).1.toNat default).cap - f.getD (sp.getD a.toNat (0, false)).1.toNat 0 := if_neg (by rw [c32]; decide)
      rw [hrm1] at hpos
      refine awp_still [1, 2, 6, 7, 13, 14, 15] [102, 106, 107, 5013] [(0 < 1), (0 < 1), ((0 : Int) ≤ ((List.getD sp (Int.toNat a) (0, false)).1)), (((List.getD sp (Int.toNat a) (0, false)).1) < ((es.length : Nat) : Int)), (0 < 1), ((0 : Int) ≤ ((List.getD sp (Int.toNat a) (0, false)).1)), (((List.getD sp (Int.toNat a) (0, false)).1) < ((f.length : Nat) : Int)), (-9223372036854775808 ≤ (((List.getD es (Int.toNat ((List.getD sp (Int.toNat a) (0, false)).1)) default).cap) - (List.getD f (Int.toNat ((List.getD sp (Int.toNat a) (0, false)).1)) 0)) ∧ (((List.getD es (Int.toNat ((List.getD sp (Int.toNat a) (0, false)).1)) default).cap) - (List.getD f (Int.toNat ((List.getD sp (Int.toNat a) (0, false)).1)) 0)) ≤ 9223372036854775807)] ⟨168, [(ZK2 f), (2, .p 102), (6, .p 106), (7, .p 107), (ZK12 l), (ZK14 room es sp a f), (15, .i a)], [(ZK0 n s t es), (106, .flat (.steps sp)), (ZK4 fr), (ZK6 l sp a)]⟩ (by kernel_rfl) (by kernel_rfl) hT (by kernel_rfl) ⟨(by decide), (by decide), (by omega), (by omega), (by decide), (by omega), (by omega), (by omega), trivial⟩ ?_
      refine kr [((0 : Int) ≤ a), (a < 12), ((Int.toNat a) < fr.length)] ⟨168, [(ZK2 f), (2, .p 102), (6, .p 106), (7, .p 107), (ZK12 l), (ZK14 room es sp a f), (15, .i (List.getD fr (Int.toNat a) 0))], [(ZK0 n s t es), (106, .flat (.steps sp)), (ZK4 fr), (ZK6 l sp a)]⟩ hT (by kernel_rfl) ⟨(by omega), (by omega), (by omega), trivial⟩ ?_
      refine loop_end _ ?_ ⟨(List.getD fr (Int.toNat a) 0), (l ++ [(((List.getD sp (Int.toNat a) (0, false)).1), ((List.getD sp (Int.toNat a) (0, false)).2))]), (min room (((List.getD es (Int.toNat ((List.getD sp (Int.toNat a) (0, false)).1)) default).cap) - (List.getD f (Int.toNat ((List.getD sp (Int.toNat a) (0, false)).1)) 0))), ⟨(by exact ⟨ha.2.2, hva.2.1, hva.2.2.1⟩), (by exact hch.snoc hres), (by exact honce.snoc hsn.2), (by exact hsn.1), (by omega), (by intro p hp; rcases List.mem_append.1 hp with hp | hp; have := hrm p hp; omega; rw [List.mem_singleton] at hp; subst hp; rw [hrm1]; omega), (by simp only [lens]; omega), rfl⟩, (by first | (simp only [lens]; done) | (simp only [Nat.zero_add]; done) | simp only [lens, Nat.zero_add])⟩
      omega
    ·
     try simp only [bs] at c28
     refine awp_exit ?_
     refine kq [] ⟨168, [(4, .w 5013 l.length), (5, .i room)], [(5013, .flat (.steps l))]⟩ hT (by kernel_rfl) trivial ?_
     refine awp_weak (awk_ren 5013 9001 (s' := ⟨168, [(4, .w 9001 l.length), (5, .i room)], [(9001, .flat (.steps l))]⟩) (by kernel_rfl)) ?_
     refine awp_ret ?_
     have hend : a = s := by omega
     refine kRet.ret _ [9001] [] (.tup [(false, [(.w 9001 l.length)]), (false, [(.i room)])]) [(9001, .flat (.steps l))] (by kernel_rfl) trivial ?_
     exact ⟨l, room, (by exact .inr ⟨hroom.1, hroom.2, hend ▸ hch, honce, hrm, by omega⟩), (by kernel_rfl), (by kernel_rfl)⟩
end Go.Ab
