/- CloseSays returns true. -/
import Derived.Test.YtdglhalkilneaaaTab
import Derived.Test.YtdglhalkilneaaaClose1
set_option maxRecDepth 100000
namespace Go.Ab
open Go Go.Proofs
theorem closed1 (z : Int) (a : Arc) (hz0 : 0 ≤ z) (hz1 : z ≤ 65535) (ha : 0 ≤ a.src ∧ a.src < 16 ∧ 0 ≤ a.dst ∧ a.dst < 16) : ACall Try.prog 140 [.agg [(.int .i64 a.src), (.int .i64 a.dst), (.int .i64 a.cap)], .one (.ptr 1 0 0)] [(1, .box 1 1 [(.int .u16 z)])] (fun ov oh => ov = .one (.bool (strayA z a)) ∧ oh = [(1, .box 1 1 [(.int .u16 z)])]) := by
  refine acall_intro hT Try.func140 rfl (by kernel_rfl) rfl (by kernel_rfl) ?_
  have hq1 := shr_in a.src hz0 hz1
  have hq2 := shr_in a.dst hz0 hz1
  refine awp_run_seq [1, 2] [102] [] ⟨18, [(1, .one (.ptr 1 0 0)), (2, .one (.ptr 102 0 0))], [(1, .box 1 1 [(.int .u16 z)]), (102, .box 1 3 [(.int .i64 a.src), (.int .i64 a.dst), (.int .i64 a.cap)])]⟩ hT (by kernel_rfl) trivial ?_
  refine awp_run_seq [3] [] [(0 < 1), (0 < 1), ((0 : Int) ≤ a.src), (a.src ≤ 16), ((0 : Int) ≤ (z / 2 ^ (Int.toNat a.src)) ∧ (0 ≤ (z / 2 ^ (Int.toNat a.src)) ∧ (z / 2 ^ (Int.toNat a.src)) ≤ 65535)), ((0 : Int) ≤ 1 ∧ (0 ≤ (1 : Int) ∧ (1 : Int) ≤ 65535)), ((decide ((iand (z / 2 ^ (Int.toNat a.src)) 1) = 1)) = true → (0 < 1)), ((decide ((iand (z / 2 ^ (Int.toNat a.src)) 1) = 1)) = true → ((decide ((iand (z / 2 ^ (Int.toNat a.src)) 1) = 1)) = true → (decide ((iand (z / 2 ^ (Int.toNat a.src)) 1) = 1)) = true)), ((decide ((iand (z / 2 ^ (Int.toNat a.src)) 1) = 1)) = true → (0 < 1)), ((decide ((iand (z / 2 ^ (Int.toNat a.src)) 1) = 1)) = true → ((decide ((iand (z / 2 ^ (Int.toNat a.src)) 1) = 1)) = true → (decide ((iand (z / 2 ^ (Int.toNat a.src)) 1) = 1)) = true)), ((decide ((iand (z / 2 ^ (Int.toNat a.src)) 1) = 1)) = true → ((decide ((iand (z / 2 ^ (Int.toNat a.src)) 1) = 1)) = true → (decide ((iand (z / 2 ^ (Int.toNat a.src)) 1) = 1)) = true)), ((decide ((iand (z / 2 ^ (Int.toNat a.src)) 1) = 1)) = true → ((0 : Int) ≤ a.dst)), ((decide ((iand (z / 2 ^ (Int.toNat a.src)) 1) = 1)) = true → (a.dst ≤ 16)), ((decide ((iand (z / 2 ^ (Int.toNat a.src)) 1) = 1)) = true → ((decide ((iand (z / 2 ^ (Int.toNat a.src)) 1) = 1)) = true → (decide ((iand (z / 2 ^ (Int.toNat a.src)) 1) = 1)) = true)), ((decide ((iand (z / 2 ^ (Int.toNat a.src)) 1) = 1)) = true → ((0 : Int) ≤ (z / 2 ^ (Int.toNat a.dst)) ∧ (0 ≤ (z / 2 ^ (Int.toNat a.dst)) ∧ (z / 2 ^ (Int.toNat a.dst)) ≤ 65535))), ((decide ((iand (z / 2 ^ (Int.toNat a.src)) 1) = 1)) = true → ((0 : Int) ≤ 1 ∧ (0 ≤ (1 : Int) ∧ (1 : Int) ≤ 65535))), ((decide ((iand (z / 2 ^ (Int.toNat a.src)) 1) = 1)) = true → ((decide ((iand (z / 2 ^ (Int.toNat a.src)) 1) = 1)) = true → (decide ((iand (z / 2 ^ (Int.toNat a.src)) 1) = 1)) = true)), ((decide ((iand (z / 2 ^ (Int.toNat a.src)) 1) = 1)) = true → (decide ((iand (z / 2 ^ (Int.toNat a.src)) 1) = 1)) = true)] ⟨18, [(3, .one (.bool ((decide ((iand (z / 2 ^ (Int.toNat a.src)) 1) = 1)) && (decide ((iand (z / 2 ^ (Int.toNat a.dst)) 1) = 0)))))], [(1, .box 1 1 [(.int .u16 z)])]⟩ hT (by kernel_rfl) ⟨(by decide), (by decide), (by first | omega | (simp only [lens]; omega) | (simp only [Bool.cond_decide]; omega)), (by first | omega | (simp only [lens]; omega) | (simp only [Bool.cond_decide]; omega)), (by first | omega | (simp only [lens]; omega) | (simp only [Bool.cond_decide]; omega)), (by first | omega | (simp only [lens]; omega) | (simp only [Bool.cond_decide]; omega)), (by intro hg; first | exact hg | skip; (try simp only [bs] at hg); first | exact hg | first | omega | (simp only [lens]; omega) | (simp only [Bool.cond_decide]; omega) | grind), (by intro hg; first | exact hg | skip; (try simp only [bs] at hg ⊢); first | exact hg | first | omega | (simp only [lens]; omega) | (simp only [Bool.cond_decide]; omega) | grind), (by intro hg; first | exact hg | skip; (try simp only [bs] at hg); first | exact hg | first | omega | (simp only [lens]; omega) | (simp only [Bool.cond_decide]; omega) | grind), (by intro hg; first | exact hg | skip; (try simp only [bs] at hg ⊢); first | exact hg | first | omega | (simp only [lens]; omega) | (simp only [Bool.cond_decide]; omega) | grind), (by intro hg; first | exact hg | skip; (try simp only [bs] at hg ⊢); first | exact hg | first | omega | (simp only [lens]; omega) | (simp only [Bool.cond_decide]; omega) | grind), (by intro hg; first | exact hg | skip; (try simp only [bs] at hg); first | exact hg | first | omega | (simp only [lens]; omega) | (simp only [Bool.cond_decide]; omega) | grind), (by intro hg; first | exact hg | skip; (try simp only [bs] at hg); first | exact hg | first | omega | (simp only [lens]; omega) | (simp only [Bool.cond_decide]; omega) | grind), (by intro hg; first | exact hg | skip; (try simp only [bs] at hg ⊢); first | exact hg | first | omega | (simp only [lens]; omega) | (simp only [Bool.cond_decide]; omega) | grind), (by intro hg; first | exact hg | skip; (try simp only [bs] at hg); first | exact hg | first | omega | (simp only [lens]; omega) | (simp only [Bool.cond_decide]; omega) | grind), (by intro hg; first | exact hg | skip; (try simp only [bs] at hg); first | exact hg | first | omega | (simp only [lens]; omega) | (simp only [Bool.cond_decide]; omega) | grind), (by intro hg; first | exact hg | skip; (try simp only [bs] at hg ⊢); first | exact hg | first | omega | (simp only [lens]; omega) | (simp only [Bool.cond_decide]; omega) | grind), (fun h => h), trivial⟩ ?_
  refine awp_ret ?_
  refine kRet.ret _ [] [] (.one (.bool ((decide ((iand (z / 2 ^ (Int.toNat a.src)) 1) = 1)) && (decide ((iand (z / 2 ^ (Int.toNat a.dst)) 1) = 0))))) [(1, .box 1 1 [(.int .u16 z)])] (by kernel_rfl) trivial ?_
  exact ⟨(by kernel_rfl), (by kernel_rfl)⟩

theorem ref_closed (l : List Arc) (z : Int) (hz0 : 0 ≤ z) (hz1 : z ≤ 65535) (hl : ∀ a ∈ l, 0 ≤ a.src ∧ a.src < 16 ∧ 0 ≤ a.dst ∧ a.dst < 16) : ACall Try.prog 118 [.one (.ro (.arcs l)), .one (.int .u16 z)] [] (fun ov oh => ov = .one (.bool (closed l z)) ∧ oh = []) := by
  refine acall_intro hT Try.func118 rfl (by kernel_rfl) rfl (by kernel_rfl) ?_
  refine awp_run_seq [0, 3] [103] [] ⟨9, [(0, .one (.ro (.arcs l))), (3, .one (.ptr 103 0 0))], [(103, .box 1 1 [(.int .u16 z)])]⟩ hT (by kernel_rfl) trivial ?_
  refine awp_seq (awp_region ?_)
  refine aops_run 2 [5, 6] [103] [] ⟨9, [(5, .one (.ro (.arcs l))), (6, .one (.fn 140 [(.ptr 103 0 0)]))], [(103, .box 1 1 [(.int .u16 z)])]⟩ hT (by kernel_rfl) (by kernel_rfl) trivial ?_
  refine aops_call [(1, 103)] [] false ⟨true, [], 98, [.one (.ro (.arcs l)), .one (.fn 140 [(.ptr 1 0 0)])], [(1, .box 1 1 [(.int .u16 z)])]⟩ [.one (.ro (.arcs l)), .one (.fn 140 [(.ptr 1 0 0)])] (sm := ⟨9, [(5, .one (.ro (.arcs l))), (6, .one (.fn 140 [(.ptr 103 0 0)])), (7, .whn false (.one .any))], [(103, .box 1 1 [(.int .u16 z)])]⟩) (by kernel_rfl) (by kernel_rfl) (by decide) (fun _ => trivial) rfl (fun _ => hasf_arcs_z 140 (strayA z) l z (fun x hx => closed1 z x (by omega) (by omega) (hl x hx))) (fun _ v Hr hv => ?_) (fun h => by cases h)
  obtain ⟨rfl, rfl⟩ := hv
  refine ⟨⟨9, [(5, .one (.ro (.arcs l))), (6, .one (.fn 140 [(.ptr 103 0 0)])), (7, .one (.bool (List.any l (strayA z))))], [(103, .box 1 1 [(.int .u16 z)])]⟩, by kernel_rfl, ?_⟩
  refine aops_run 2 [4] [] [] ⟨9, [(4, .one (.bool (!(List.any l (strayA z)))))], []⟩ hT (by kernel_rfl) (by kernel_rfl) trivial ?_
  refine aops_end_seq (by kernel_rfl) ?_
  refine awp_ret ?_
  refine kRet.ret _ [] [] (.one (.bool (!(List.any l (strayA z))))) [] (by kernel_rfl) trivial ?_
  exact ⟨congrArg (fun x1 => (.one (.bool x1) : AV)) (show (!(List.any l (strayA z))) = (closed l z) from by exact (closed_stray l z).symm), rfl⟩

theorem ref_gain (g : List Int) (z : Int) (hz0 : 0 ≤ z) (hz1 : z ≤ 65535) (hgl : g.length ≤ 10) (hg : ∀ x ∈ g, -1000 ≤ x ∧ x ≤ 1000) : ACall Try.prog 119 [.one (.ro (.ints .i64 g)), .one (.int .u16 z)] [] (fun ov oh => ov = .one (.int .i64 (gainOf z 0 g)) ∧ oh = []) := by
  refine acall_intro hT Try.func119 rfl (by kernel_rfl) rfl (by kernel_rfl) ?_
  refine awp_run_seq [0, 1] [] [] ⟨26, [(0, .one (.ro (.ints .i64 g))), (1, .one (.int .u16 z))], []⟩ hT (by kernel_rfl) trivial ?_
  refine awp_run_seq [0, 1, 5] [] [] ⟨26, [(0, .one (.ro (.ints .i64 g))), (1, .one (.int .u16 z)), (5, .one (.int .i64 0))], []⟩ hT (by kernel_rfl) trivial ?_
  refine awp_seq ?_
  refine awp_run_seq [1, 5, 8, 9, 10] [] [] ⟨26, [(1, .one (.int .u16 z)), (5, .one (.int .i64 0)), (8, .one (.ro (.ints .i64 g))), (9, .one (.int .i64 ((g.length : Nat) : Int))), (10, .one (.int .i64 0))], []⟩ hT (by kernel_rfl) trivial ?_
  refine awp_block ?_
  refine awp_loop (I := fun κ σ => ∃ (i : Nat) (u : Int), ((i ≤ g.length) ∧ (u = gainOf z 0 (g.take i)) ∧ (-(1000 * (i : Int)) ≤ u ∧ u ≤ 1000 * (i : Int)) ∧ g.length - i = κ) ∧ σ = ⟨26, [(1, .one (.int .u16 z)), (5, .one (.int .i64 u)), (8, .one (.ro (.ints .i64 g))), (9, .one (.int .i64 ((g.length : Nat) : Int))), (10, .one (.int .i64 ((i : Nat) : Int)))], []⟩) _ ⟨0, 0, ⟨(by omega), (by rfl), (by omega), rfl⟩, (by kernel_rfl)⟩ ?_
  rintro κ _ ⟨i, u, ⟨hi, hu, hb, rfl⟩, rfl⟩
  refine awp_run_seq [1, 5, 8, 9, 10, 11] [] [] ⟨26, [(1, .one (.int .u16 z)), (5, .one (.int .i64 u)), (8, .one (.ro (.ints .i64 g))), (9, .one (.int .i64 ((g.length : Nat) : Int))), (10, .one (.int .i64 ((i : Nat) : Int))), (11, .one (.bool (decide (((i : Nat) : Int) < ((g.length : Nat) : Int)))))], []⟩ hT (by kernel_rfl) trivial ?_
  refine awp_seq ?_
  refine awp_cond (b := (decide (((i : Nat) : Int) < ((g.length : Nat) : Int)))) (by kernel_rfl) (fun c3 => ?_) (fun c3 => ?_)
  · -- yes 3
    try simp only [bs] at c3
    have hq := shr_in (i : Int) hz0 hz1
    have hb01 := bit_01 (i : Int) hz0
    unfold bit at hb01
    rw [Int.toNat_natCast] at hq hb01
    have hxb := mulbit_in (m := 1000) (by omega) (hg (g.getD i 0) (getD_mem (by omega))) hb01
    refine awp_skip ?_
    refine awp_seq ?_
    refine awp_block ?_
    refine awp_run_seq [1, 5, 6, 7, 8, 9, 10] [] [((0 : Int) ≤ ((i : Nat) : Int)), (((i : Nat) : Int) < ((g.length : Nat) : Int))] ⟨26, [(1, .one (.int .u16 z)), (5, .one (.int .i64 u)), (6, .one (.int .i64 ((i : Nat) : Int))), (7, .one (.int .i64 (List.getD g i 0))), (8, .one (.ro (.ints .i64 g))), (9, .one (.int .i64 ((g.length : Nat) : Int))), (10, .one (.int .i64 ((i : Nat) : Int)))], []⟩ hT (by kernel_rfl) ⟨(by first | omega | (simp only [lens]; omega) | (simp only [Bool.cond_decide]; omega)), (by first | omega | (simp only [lens]; omega) | (simp only [Bool.cond_decide]; omega)), trivial⟩ ?_
    refine awp_run [1, 5, 8, 9, 10] [] [((0 : Int) ≤ ((i : Nat) : Int)), (((i : Nat) : Int) ≤ 16), ((0 : Int) ≤ (z / 2 ^ i) ∧ (0 ≤ (z / 2 ^ i) ∧ (z / 2 ^ i) ≤ 65535)), ((0 : Int) ≤ 1 ∧ (0 ≤ (1 : Int) ∧ (1 : Int) ≤ 65535)), (-9223372036854775808 ≤ (iand (z / 2 ^ i) 1) ∧ (iand (z / 2 ^ i) 1) ≤ 9223372036854775807), (-9223372036854775808 ≤ ((List.getD g i 0) * (iand (z / 2 ^ i) 1)) ∧ ((List.getD g i 0) * (iand (z / 2 ^ i) 1)) ≤ 9223372036854775807), (-9223372036854775808 ≤ (u + ((List.getD g i 0) * (iand (z / 2 ^ i) 1))) ∧ (u + ((List.getD g i 0) * (iand (z / 2 ^ i) 1))) ≤ 9223372036854775807)] ⟨26, [(1, .one (.int .u16 z)), (5, .one (.int .i64 (u + ((List.getD g i 0) * (iand (z / 2 ^ i) 1))))), (8, .one (.ro (.ints .i64 g))), (9, .one (.int .i64 ((g.length : Nat) : Int))), (10, .one (.int .i64 ((i : Nat) : Int)))], []⟩ hT (by kernel_rfl) ⟨(by first | omega | (simp only [lens]; omega) | (simp only [Bool.cond_decide]; omega)), (by first | omega | (simp only [lens]; omega) | (simp only [Bool.cond_decide]; omega)), (by first | omega | (simp only [lens]; omega) | (simp only [Bool.cond_decide]; omega)), (by first | omega | (simp only [lens]; omega) | (simp only [Bool.cond_decide]; omega)), (by first | omega | (simp only [lens]; omega) | (simp only [Bool.cond_decide]; omega)), (by first | omega | (simp only [lens]; omega) | (simp only [Bool.cond_decide]; omega)), (by first | omega | (simp only [lens]; omega) | (simp only [Bool.cond_decide]; omega)), trivial⟩ ?_
    refine awp_run [1, 5, 8, 9, 10] [] [(-9223372036854775808 ≤ (((i + 1) : Nat) : Int) ∧ (((i + 1) : Nat) : Int) ≤ 9223372036854775807)] ⟨26, [(1, .one (.int .u16 z)), (5, .one (.int .i64 (u + ((List.getD g i 0) * (iand (z / 2 ^ i) 1))))), (8, .one (.ro (.ints .i64 g))), (9, .one (.int .i64 ((g.length : Nat) : Int))), (10, .one (.int .i64 (((i + 1) : Nat) : Int)))], []⟩ hT (by kernel_rfl) ⟨(by first | omega | (simp only [lens]; omega) | (simp only [Bool.cond_decide]; omega)), trivial⟩ ?_
    refine loop_end _ ?_ ⟨(i + 1), (u + ((List.getD g i 0) * (iand (z / 2 ^ i) 1))), ⟨(by omega), (by rw [gainOf_step z g i (by omega), ← hu]; rfl), (by omega), rfl⟩, (by kernel_rfl)⟩
    omega
  · -- no 3
    try simp only [bs] at c3
    refine awp_exit ?_
    refine awp_run_seq [4] [] [] ⟨26, [(4, .one (.int .i64 u))], []⟩ hT (by kernel_rfl) trivial ?_
    refine awp_ret ?_
    refine kRet.ret _ [] [] (.one (.int .i64 u)) [] (by kernel_rfl) trivial ?_
    exact ⟨congrArg (fun x1 => (.one (.int .i64 x1) : AV)) (show u = (gainOf z 0 g) from by rw [hu, List.take_of_length_le (by omega)]), rfl⟩

theorem ref_takeOf (g : List Int) (l : List Arc) (hC : CloseOk g l) : ACall Try.prog 59 [.one (.ro (.ints .i64 g)), .one (.ro (.arcs l))] [] (fun ov oh => ov = .tup [(false, [(.int .u16 ((takeOf g l).2))]), (false, [(.int .i64 ((takeOf g l).1))])] ∧ oh = []) := by
  refine acall_intro hT Try.func59 rfl (by kernel_rfl) rfl (by kernel_rfl) ?_
  have hgl := hC.len
  have hg := hC.gain
  have hl : ∀ a ∈ l, 0 ≤ a.src ∧ a.src < 16 ∧ 0 ≤ a.dst ∧ a.dst < 16 := fun a ha => by have := hC.arc a ha; omega
  have hpn := pw16 (v := (g.length : Int)) (by omega) (by omega)
  rw [Int.toNat_natCast] at hpn
  have hpc : (1 : Int) * 2 ^ g.length = ((2 ^ g.length : Nat) : Int) := by rw [Int.one_mul]; norm_cast
  have hpw : 2 ^ g.length ≤ 1024 := Nat.pow_le_pow_right (n := 2) (i := g.length) (j := 10) (by decide) hgl
  refine awp_run_seq [0, 1] [] [] ⟨43, [(0, .one (.ro (.ints .i64 g))), (1, .one (.ro (.arcs l)))], []⟩ hT (by kernel_rfl) trivial ?_
  refine awp_run_seq [0, 1, 6] [] [] ⟨43, [(0, .one (.ro (.ints .i64 g))), (1, .one (.ro (.arcs l))), (6, .one (.int .i64 0))], []⟩ hT (by kernel_rfl) trivial ?_
  refine awp_run_seq [0, 1, 6, 7] [] [] ⟨43, [(0, .one (.ro (.ints .i64 g))), (1, .one (.ro (.arcs l))), (6, .one (.int .i64 0)), (7, .one (.int .u16 0))], []⟩ hT (by kernel_rfl) trivial ?_
  refine awp_seq ?_
  refine awp_run_seq [0, 1, 6, 7, 12, 13] [] [((0 : Int) ≤ ((g.length : Nat) : Int)), (((g.length : Nat) : Int) ≤ 16), (0 ≤ ((1 : Int) * 2 ^ g.length) ∧ ((1 : Int) * 2 ^ g.length) ≤ 65535)] ⟨43, [(0, .one (.ro (.ints .i64 g))), (1, .one (.ro (.arcs l))), (6, .one (.int .i64 0)), (7, .one (.int .u16 0)), (12, .one (.int .u16 ((1 : Int) * 2 ^ g.length))), (13, .one (.int .u16 0))], []⟩ hT (by kernel_rfl) ⟨(by first | omega | (simp only [lens]; omega) | (simp only [Bool.cond_decide]; omega)), (by first | omega | (simp only [lens]; omega) | (simp only [Bool.cond_decide]; omega)), (by first | omega | (simp only [lens]; omega) | (simp only [Bool.cond_decide]; omega)), trivial⟩ ?_
  refine awp_block ?_
  rw [show ((1 : Int) * 2 ^ g.length) = (((2 ^ g.length) : Nat) : Int) from by exact hpc]
  refine awp_loop (I := fun κ σ => ∃ (i : Nat) (b q : Int), ((i ≤ 2 ^ g.length) ∧ ((b, q) = (List.range i).foldl (fun x (k : Nat) => tstep g l x (k : Int)) (0, 0)) ∧ (0 ≤ q ∧ q ≤ 65535) ∧ 2 ^ g.length - i = κ) ∧ σ = ⟨43, [(0, .one (.ro (.ints .i64 g))), (1, .one (.ro (.arcs l))), (6, .one (.int .i64 b)), (7, .one (.int .u16 q)), (12, .one (.int .u16 (((2 ^ g.length) : Nat) : Int))), (13, .one (.int .u16 ((i : Nat) : Int)))], []⟩) _ ⟨0, 0, 0, ⟨(by omega), (by rfl), (by omega), rfl⟩, (by kernel_rfl)⟩ ?_
  rintro κ _ ⟨i, b, q, ⟨hi, hp, hq, rfl⟩, rfl⟩
  refine awp_run_seq [0, 1, 6, 7, 12, 13, 14] [] [] ⟨43, [(0, .one (.ro (.ints .i64 g))), (1, .one (.ro (.arcs l))), (6, .one (.int .i64 b)), (7, .one (.int .u16 q)), (12, .one (.int .u16 (((2 ^ g.length) : Nat) : Int))), (13, .one (.int .u16 ((i : Nat) : Int))), (14, .one (.bool (decide (((i : Nat) : Int) < (((2 ^ g.length) : Nat) : Int)))))], []⟩ hT (by kernel_rfl) trivial ?_
  refine awp_seq ?_
  refine awp_cond (b := (decide (((i : Nat) : Int) < (((2 ^ g.length) : Nat) : Int)))) (by kernel_rfl) (fun c4 => ?_) (fun c4 => ?_)
  · -- yes 4
    try simp only [bs] at c4
    have hi0 : (0 : Int) ≤ (i : Int) := by omega
    have hi1 : (i : Int) ≤ 65535 := by omega
    have hgi := gainOf_in hi0 (m := 1000) (by omega) 0 hg
    refine awp_skip ?_
    refine awp_seq ?_
    refine awp_block ?_
    refine awp_run_seq [0, 1, 6, 7, 8, 12, 13] [] [] ⟨43, [(0, .one (.ro (.ints .i64 g))), (1, .one (.ro (.arcs l))), (6, .one (.int .i64 b)), (7, .one (.int .u16 q)), (8, .one (.int .u16 ((i : Nat) : Int))), (12, .one (.int .u16 (((2 ^ g.length) : Nat) : Int))), (13, .one (.int .u16 ((i : Nat) : Int)))], []⟩ hT (by kernel_rfl) trivial ?_
    refine awp_seq ?_
    refine awp_seq (awp_region ?_)
    refine aops_run 2 [0, 1, 6, 7, 8, 12, 13, 16, 17] [] [] ⟨43, [(0, .one (.ro (.ints .i64 g))), (1, .one (.ro (.arcs l))), (6, .one (.int .i64 b)), (7, .one (.int .u16 q)), (8, .one (.int .u16 ((i : Nat) : Int))), (12, .one (.int .u16 (((2 ^ g.length) : Nat) : Int))), (13, .one (.int .u16 ((i : Nat) : Int))), (16, .one (.ro (.arcs l))), (17, .one (.int .u16 ((i : Nat) : Int)))], []⟩ hT (by kernel_rfl) (by kernel_rfl) trivial ?_
    refine aops_pure false ⟨true, [], 118, [.one (.ro (.arcs l)), .one (.int .u16 ((i : Nat) : Int))], []⟩ [.one (.ro (.arcs l)), .one (.int .u16 ((i : Nat) : Int))] (.one (.bool (closed l ((i : Nat) : Int)))) ⟨43, [(0, .one (.ro (.ints .i64 g))), (1, .one (.ro (.arcs l))), (6, .one (.int .i64 b)), (7, .one (.int .u16 q)), (8, .one (.int .u16 ((i : Nat) : Int))), (12, .one (.int .u16 (((2 ^ g.length) : Nat) : Int))), (13, .one (.int .u16 ((i : Nat) : Int))), (16, .one (.ro (.arcs l))), (17, .one (.int .u16 ((i : Nat) : Int))), (18, .one (.bool (closed l ((i : Nat) : Int))))], []⟩ (by kernel_rfl) (by kernel_rfl) (fun _ => trivial) rfl (fun _ => ref_closed l ((i : Nat) : Int) (by omega) (by omega) (by assumption)) ?_
    refine aops_run 1 [0, 1, 6, 7, 8, 12, 13, 19] [] [] ⟨43, [(0, .one (.ro (.ints .i64 g))), (1, .one (.ro (.arcs l))), (6, .one (.int .i64 b)), (7, .one (.int .u16 q)), (8, .one (.int .u16 ((i : Nat) : Int))), (12, .one (.int .u16 (((2 ^ g.length) : Nat) : Int))), (13, .one (.int .u16 ((i : Nat) : Int))), (19, .one (.bool (!(closed l ((i : Nat) : Int)))))], []⟩ hT (by kernel_rfl) (by kernel_rfl) trivial ?_
    refine aops_end_seq (by kernel_rfl) ?_
    refine awp_cond (b := (!(closed l ((i : Nat) : Int)))) (by kernel_rfl) (fun c6 => ?_) (fun c6 => ?_)
    · -- yes 6
      try simp only [bs] at c6
      have hcl : closed l (i : Int) = false := by simpa using c6
      have hts : (b, q) = tstep g l (b, q) (i : Int) := by rw [tstep, if_neg (by rw [hcl]; decide)]
      refine awp_exit ?_
      refine awp_run [0, 1, 6, 7, 12, 13] [] [(0 ≤ (((i + 1) : Nat) : Int) ∧ (((i + 1) : Nat) : Int) ≤ 65535)] ⟨43, [(0, .one (.ro (.ints .i64 g))), (1, .one (.ro (.arcs l))), (6, .one (.int .i64 b)), (7, .one (.int .u16 q)), (12, .one (.int .u16 (((2 ^ g.length) : Nat) : Int))), (13, .one (.int .u16 (((i + 1) : Nat) : Int)))], []⟩ hT (by kernel_rfl) ⟨(by first | omega | (simp only [lens]; omega) | (simp only [Bool.cond_decide]; omega)), trivial⟩ ?_
      refine loop_end _ ?_ ⟨(i + 1), b, q, ⟨(by omega), (by rw [List.range_succ, List.foldl_append, ← hp]; simp only [List.foldl_cons, List.foldl_nil]; exact hts), (by first | omega | exact iand_in hq.1 hq.2 hi0 hi1), rfl⟩, (by kernel_rfl)⟩
      omega
    · -- no 6
      try simp only [bs] at c6
      have hcl : closed l (i : Int) = true := by simpa using c6
      refine awp_skip ?_
      refine awp_seq (awp_region ?_)
      refine aops_run 2 [0, 1, 6, 7, 8, 12, 13, 20, 21] [] [] ⟨43, [(0, .one (.ro (.ints .i64 g))), (1, .one (.ro (.arcs l))), (6, .one (.int .i64 b)), (7, .one (.int .u16 q)), (8, .one (.int .u16 ((i : Nat) : Int))), (12, .one (.int .u16 (((2 ^ g.length) : Nat) : Int))), (13, .one (.int .u16 ((i : Nat) : Int))), (20, .one (.ro (.ints .i64 g))), (21, .one (.int .u16 ((i : Nat) : Int)))], []⟩ hT (by kernel_rfl) (by kernel_rfl) trivial ?_
      refine aops_pure false ⟨true, [], 119, [.one (.ro (.ints .i64 g)), .one (.int .u16 ((i : Nat) : Int))], []⟩ [.one (.ro (.ints .i64 g)), .one (.int .u16 ((i : Nat) : Int))] (.one (.int .i64 (gainOf ((i : Nat) : Int) 0 g))) ⟨43, [(0, .one (.ro (.ints .i64 g))), (1, .one (.ro (.arcs l))), (6, .one (.int .i64 b)), (7, .one (.int .u16 q)), (8, .one (.int .u16 ((i : Nat) : Int))), (12, .one (.int .u16 (((2 ^ g.length) : Nat) : Int))), (13, .one (.int .u16 ((i : Nat) : Int))), (20, .one (.ro (.ints .i64 g))), (21, .one (.int .u16 ((i : Nat) : Int))), (22, .one (.int .i64 (gainOf ((i : Nat) : Int) 0 g)))], []⟩ (by kernel_rfl) (by kernel_rfl) (fun _ => trivial) rfl (fun _ => ref_gain g ((i : Nat) : Int) (by omega) (by omega) (by assumption) (by assumption)) ?_
      refine aops_run 1 [0, 1, 6, 7, 8, 9, 12, 13] [] [] ⟨43, [(0, .one (.ro (.ints .i64 g))), (1, .one (.ro (.arcs l))), (6, .one (.int .i64 b)), (7, .one (.int .u16 q)), (8, .one (.int .u16 ((i : Nat) : Int))), (9, .one (.int .i64 (gainOf ((i : Nat) : Int) 0 g))), (12, .one (.int .u16 (((2 ^ g.length) : Nat) : Int))), (13, .one (.int .u16 ((i : Nat) : Int)))], []⟩ hT (by kernel_rfl) (by kernel_rfl) trivial ?_
      refine aops_end_seq (by kernel_rfl) ?_
      refine awp_block ?_
      refine awp_run_seq [0, 1, 6, 7, 8, 9, 12, 13, 23] [] [((!(decide (((i : Nat) : Int) = 0))) = true → ((!(decide (((i : Nat) : Int) = 0))) = true → (!(decide (((i : Nat) : Int) = 0))) = true)), ((!(decide (((i : Nat) : Int) = 0))) = true → ((!(decide (((i : Nat) : Int) = 0))) = true → (!(decide (((i : Nat) : Int) = 0))) = true)), ((!(decide (((i : Nat) : Int) = 0))) = true → (!(decide (((i : Nat) : Int) = 0))) = true)] ⟨43, [(0, .one (.ro (.ints .i64 g))), (1, .one (.ro (.arcs l))), (6, .one (.int .i64 b)), (7, .one (.int .u16 q)), (8, .one (.int .u16 ((i : Nat) : Int))), (9, .one (.int .i64 (gainOf ((i : Nat) : Int) 0 g))), (12, .one (.int .u16 (((2 ^ g.length) : Nat) : Int))), (13, .one (.int .u16 ((i : Nat) : Int))), (23, .one (.bool ((decide (((i : Nat) : Int) = 0)) || (decide (b < (gainOf ((i : Nat) : Int) 0 g))))))], []⟩ hT (by kernel_rfl) ⟨(by intro hg; first | exact hg | skip; (try simp only [bs] at hg ⊢); first | exact hg | first | omega | (simp only [lens]; omega) | (simp only [Bool.cond_decide]; omega) | grind), (by intro hg; first | exact hg | skip; (try simp only [bs] at hg ⊢); first | exact hg | first | omega | (simp only [lens]; omega) | (simp only [Bool.cond_decide]; omega) | grind), (fun h => h), trivial⟩ ?_
      refine awp_cond (b := ((decide (((i : Nat) : Int) = 0)) || (decide (b < (gainOf ((i : Nat) : Int) 0 g))))) (by kernel_rfl) (fun c8 => ?_) (fun c8 => ?_)
      · -- yes 8
        try simp only [bs] at c8
        have hts : (gainOf (i : Int) 0 g, (i : Int)) = tstep g l (b, q) (i : Int) := by rw [tstep, if_pos hcl, if_pos c8]
        refine awp_run [0, 1, 6, 7, 12, 13] [] [] ⟨43, [(0, .one (.ro (.ints .i64 g))), (1, .one (.ro (.arcs l))), (6, .one (.int .i64 (gainOf ((i : Nat) : Int) 0 g))), (7, .one (.int .u16 ((i : Nat) : Int))), (12, .one (.int .u16 (((2 ^ g.length) : Nat) : Int))), (13, .one (.int .u16 ((i : Nat) : Int)))], []⟩ hT (by kernel_rfl) trivial ?_
        refine awp_run [0, 1, 6, 7, 12, 13] [] [(0 ≤ (((i + 1) : Nat) : Int) ∧ (((i + 1) : Nat) : Int) ≤ 65535)] ⟨43, [(0, .one (.ro (.ints .i64 g))), (1, .one (.ro (.arcs l))), (6, .one (.int .i64 (gainOf ((i : Nat) : Int) 0 g))), (7, .one (.int .u16 ((i : Nat) : Int))), (12, .one (.int .u16 (((2 ^ g.length) : Nat) : Int))), (13, .one (.int .u16 (((i + 1) : Nat) : Int)))], []⟩ hT (by kernel_rfl) ⟨(by first | omega | (simp only [lens]; omega) | (simp only [Bool.cond_decide]; omega)), trivial⟩ ?_
        refine loop_end _ ?_ ⟨(i + 1), (gainOf ((i : Nat) : Int) 0 g), ((i : Nat) : Int), ⟨(by omega), (by rw [List.range_succ, List.foldl_append, ← hp]; simp only [List.foldl_cons, List.foldl_nil]; exact hts), (by first | omega | exact iand_in hq.1 hq.2 hi0 hi1), rfl⟩, (by kernel_rfl)⟩
        omega
      · -- no 8
        try simp only [bs] at c8
        refine awp_run_seq [0, 1, 6, 7, 8, 12, 13, 33] [] [] ⟨43, [(0, .one (.ro (.ints .i64 g))), (1, .one (.ro (.arcs l))), (6, .one (.int .i64 b)), (7, .one (.int .u16 q)), (8, .one (.int .u16 ((i : Nat) : Int))), (12, .one (.int .u16 (((2 ^ g.length) : Nat) : Int))), (13, .one (.int .u16 ((i : Nat) : Int))), (33, .one (.bool (decide ((gainOf ((i : Nat) : Int) 0 g) = b))))], []⟩ hT (by kernel_rfl) trivial ?_
        refine awp_cond (b := (decide ((gainOf ((i : Nat) : Int) 0 g) = b))) (by kernel_rfl) (fun c10 => ?_) (fun c10 => ?_)
        · -- yes 10
          try simp only [bs] at c10
          have hts : (b, iand q (i : Int)) = tstep g l (b, q) (i : Int) := by rw [tstep, if_pos hcl, if_neg (by simp only; omega), if_pos (by simp only; omega)]
          refine awp_run [0, 1, 6, 7, 12, 13] [] [((0 : Int) ≤ q ∧ (0 ≤ q ∧ q ≤ 65535)), ((0 : Int) ≤ ((i : Nat) : Int) ∧ (0 ≤ ((i : Nat) : Int) ∧ ((i : Nat) : Int) ≤ 65535))] ⟨43, [(0, .one (.ro (.ints .i64 g))), (1, .one (.ro (.arcs l))), (6, .one (.int .i64 b)), (7, .one (.int .u16 (iand q ((i : Nat) : Int)))), (12, .one (.int .u16 (((2 ^ g.length) : Nat) : Int))), (13, .one (.int .u16 ((i : Nat) : Int)))], []⟩ hT (by kernel_rfl) ⟨(by first | omega | (simp only [lens]; omega) | (simp only [Bool.cond_decide]; omega)), (by first | omega | (simp only [lens]; omega) | (simp only [Bool.cond_decide]; omega)), trivial⟩ ?_
          refine awp_run [0, 1, 6, 7, 12, 13] [] [(0 ≤ (((i + 1) : Nat) : Int) ∧ (((i + 1) : Nat) : Int) ≤ 65535)] ⟨43, [(0, .one (.ro (.ints .i64 g))), (1, .one (.ro (.arcs l))), (6, .one (.int .i64 b)), (7, .one (.int .u16 (iand q ((i : Nat) : Int)))), (12, .one (.int .u16 (((2 ^ g.length) : Nat) : Int))), (13, .one (.int .u16 (((i + 1) : Nat) : Int)))], []⟩ hT (by kernel_rfl) ⟨(by first | omega | (simp only [lens]; omega) | (simp only [Bool.cond_decide]; omega)), trivial⟩ ?_
          refine loop_end _ ?_ ⟨(i + 1), b, (iand q ((i : Nat) : Int)), ⟨(by omega), (by rw [List.range_succ, List.foldl_append, ← hp]; simp only [List.foldl_cons, List.foldl_nil]; exact hts), (by first | omega | exact iand_in hq.1 hq.2 hi0 hi1), rfl⟩, (by kernel_rfl)⟩
          omega
        · -- no 10
          try simp only [bs] at c10
          have hts : (b, q) = tstep g l (b, q) (i : Int) := by rw [tstep, if_pos hcl, if_neg (by simp only; omega), if_neg (by simp only; omega)]
          refine awp_skip ?_
          refine awp_run [0, 1, 6, 7, 12, 13] [] [(0 ≤ (((i + 1) : Nat) : Int) ∧ (((i + 1) : Nat) : Int) ≤ 65535)] ⟨43, [(0, .one (.ro (.ints .i64 g))), (1, .one (.ro (.arcs l))), (6, .one (.int .i64 b)), (7, .one (.int .u16 q)), (12, .one (.int .u16 (((2 ^ g.length) : Nat) : Int))), (13, .one (.int .u16 (((i + 1) : Nat) : Int)))], []⟩ hT (by kernel_rfl) ⟨(by first | omega | (simp only [lens]; omega) | (simp only [Bool.cond_decide]; omega)), trivial⟩ ?_
          refine loop_end _ ?_ ⟨(i + 1), b, q, ⟨(by omega), (by rw [List.range_succ, List.foldl_append, ← hp]; simp only [List.foldl_cons, List.foldl_nil]; exact hts), (by first | omega | exact iand_in hq.1 hq.2 hi0 hi1), rfl⟩, (by kernel_rfl)⟩
          omega
  · -- no 4
    try simp only [bs] at c4
    refine awp_exit ?_
    refine awp_run_seq [4, 5] [] [] ⟨43, [(4, .one (.int .u16 q)), (5, .one (.int .i64 b))], []⟩ hT (by kernel_rfl) trivial ?_
    refine awp_ret ?_
    have hfin : (b, q) = takeOf g l := by rw [hp, takeOf, show i = 2 ^ g.length by omega]
    refine kRet.ret _ [] [] (.tup [(false, [(.int .u16 q)]), (false, [(.int .i64 b)])]) [] (by kernel_rfl) trivial ?_
    exact ⟨by rw [show (takeOf g l).2 = q from Eq.symm (by rw [← hfin]), show (takeOf g l).1 = b from Eq.symm (by rw [← hfin])], rfl⟩

theorem closeSays_law (g : List Int) (l : List Arc) : ACall Try.prog 10 [.one (.ro (.ints .i64 g)), .one (.ro (.arcs l))] [] (fun ov oh => ov = .one (.bool true) ∧ oh = []) := by
  refine acall_intro hT Try.func10 rfl (by kernel_rfl) rfl (by kernel_rfl) ?_
  refine awp_run_seq [0, 1] [] [] ⟨57, [(0, .one (.ro (.ints .i64 g))), (1, .one (.ro (.arcs l)))], []⟩ hT (by kernel_rfl) trivial ?_
  refine awp_seq (awp_region ?_)
  refine aops_run 2 [0, 1, 12, 13] [] [] ⟨57, [(0, .one (.ro (.ints .i64 g))), (1, .one (.ro (.arcs l))), (12, .one (.ro (.ints .i64 g))), (13, .one (.ro (.arcs l)))], []⟩ hT (by kernel_rfl) (by kernel_rfl) trivial ?_
  refine aops_pure false ⟨true, [], 56, [.one (.ro (.ints .i64 g)), .one (.ro (.arcs l))], []⟩ [.one (.ro (.ints .i64 g)), .one (.ro (.arcs l))] (.tup [(false, [(.int .u16 (okI (closeErr g l) (takeOf g l).2))]), (false, [(.int .i64 (okI (closeErr g l) (takeOf g l).1))]), (false, [(.int .i64 (closeErr g l))])]) ⟨57, [(0, .one (.ro (.ints .i64 g))), (1, .one (.ro (.arcs l))), (12, .one (.ro (.ints .i64 g))), (13, .one (.ro (.arcs l))), (14, .tup [(false, [(.int .u16 (okI (closeErr g l) (takeOf g l).2))]), (false, [(.int .i64 (okI (closeErr g l) (takeOf g l).1))]), (false, [(.int .i64 (closeErr g l))])])], []⟩ (by kernel_rfl) (by kernel_rfl) (fun _ => trivial) rfl (fun _ => close_Best g l) ?_
  refine aops_run 7 [0, 1, 5, 6, 7] [] [] ⟨57, [(0, .one (.ro (.ints .i64 g))), (1, .one (.ro (.arcs l))), (5, .one (.int .u16 (okI (closeErr g l) (takeOf g l).2))), (6, .one (.int .i64 (okI (closeErr g l) (takeOf g l).1))), (7, .one (.int .i64 (closeErr g l)))], []⟩ hT (by kernel_rfl) (by kernel_rfl) trivial ?_
  refine aops_end_seq (by kernel_rfl) ?_
  refine awp_seq (awp_region ?_)
  refine aops_run 2 [0, 1, 5, 6, 7, 18, 19] [] [] ⟨57, [(0, .one (.ro (.ints .i64 g))), (1, .one (.ro (.arcs l))), (5, .one (.int .u16 (okI (closeErr g l) (takeOf g l).2))), (6, .one (.int .i64 (okI (closeErr g l) (takeOf g l).1))), (7, .one (.int .i64 (closeErr g l))), (18, .one (.ro (.ints .i64 g))), (19, .one (.ro (.arcs l)))], []⟩ hT (by kernel_rfl) (by kernel_rfl) trivial ?_
  refine aops_pure false ⟨true, [], 57, [.one (.ro (.ints .i64 g)), .one (.ro (.arcs l))], []⟩ [.one (.ro (.ints .i64 g)), .one (.ro (.arcs l))] (.one (.int .i64 (closeErr g l))) ⟨57, [(0, .one (.ro (.ints .i64 g))), (1, .one (.ro (.arcs l))), (5, .one (.int .u16 (okI (closeErr g l) (takeOf g l).2))), (6, .one (.int .i64 (okI (closeErr g l) (takeOf g l).1))), (7, .one (.int .i64 (closeErr g l))), (18, .one (.ro (.ints .i64 g))), (19, .one (.ro (.arcs l))), (20, .one (.int .i64 (closeErr g l)))], []⟩ (by kernel_rfl) (by kernel_rfl) (fun _ => trivial) rfl (fun _ => ref_closeErr g l) ?_
  refine aops_run 1 [0, 1, 5, 6, 7, 8] [] [] ⟨57, [(0, .one (.ro (.ints .i64 g))), (1, .one (.ro (.arcs l))), (5, .one (.int .u16 (okI (closeErr g l) (takeOf g l).2))), (6, .one (.int .i64 (okI (closeErr g l) (takeOf g l).1))), (7, .one (.int .i64 (closeErr g l))), (8, .one (.int .i64 (closeErr g l)))], []⟩ hT (by kernel_rfl) (by kernel_rfl) trivial ?_
  refine aops_end_seq (by kernel_rfl) ?_
  refine awp_seq ?_
  refine awp_seq (awp_region ?_)
  refine aops_run 2 [0, 1, 5, 6, 7, 8, 21, 22] [] [] ⟨57, [(0, .one (.ro (.ints .i64 g))), (1, .one (.ro (.arcs l))), (5, .one (.int .u16 (okI (closeErr g l) (takeOf g l).2))), (6, .one (.int .i64 (okI (closeErr g l) (takeOf g l).1))), (7, .one (.int .i64 (closeErr g l))), (8, .one (.int .i64 (closeErr g l))), (21, .one (.ro (.ints .i64 g))), (22, .one (.ro (.arcs l)))], []⟩ hT (by kernel_rfl) (by kernel_rfl) trivial ?_
  refine aops_pure false ⟨true, [], 58, [.one (.ro (.ints .i64 g)), .one (.ro (.arcs l))], []⟩ [.one (.ro (.ints .i64 g)), .one (.ro (.arcs l))] (.one (.int .i64 (closeErr g l))) ⟨57, [(0, .one (.ro (.ints .i64 g))), (1, .one (.ro (.arcs l))), (5, .one (.int .u16 (okI (closeErr g l) (takeOf g l).2))), (6, .one (.int .i64 (okI (closeErr g l) (takeOf g l).1))), (7, .one (.int .i64 (closeErr g l))), (8, .one (.int .i64 (closeErr g l))), (21, .one (.ro (.ints .i64 g))), (22, .one (.ro (.arcs l))), (23, .one (.int .i64 (closeErr g l)))], []⟩ (by kernel_rfl) (by kernel_rfl) (fun _ => trivial) rfl (fun _ => close_check g l) ?_
  refine aops_run 2 [0, 1, 5, 6, 7, 8, 25] [] [] ⟨57, [(0, .one (.ro (.ints .i64 g))), (1, .one (.ro (.arcs l))), (5, .one (.int .u16 (okI (closeErr g l) (takeOf g l).2))), (6, .one (.int .i64 (okI (closeErr g l) (takeOf g l).1))), (7, .one (.int .i64 (closeErr g l))), (8, .one (.int .i64 (closeErr g l))), (25, .one (.bool (decide ((closeErr g l) ≠ (closeErr g l)))))], []⟩ hT (by kernel_rfl) (by kernel_rfl) trivial ?_
  refine aops_end_seq (by kernel_rfl) ?_
  refine awp_cond (b := (decide ((closeErr g l) ≠ (closeErr g l)))) (by kernel_rfl) (fun c3 => ?_) (fun c3 => ?_)
  · -- yes 3
    try simp only [bs] at c3
    exfalso; simp at c3
  · -- no 3
    try simp only [bs] at c3
    refine awp_skip ?_
    refine awp_seq ?_
    refine awp_run_seq [0, 1, 5, 6, 7, 8, 27] [] [] ⟨57, [(0, .one (.ro (.ints .i64 g))), (1, .one (.ro (.arcs l))), (5, .one (.int .u16 (okI (closeErr g l) (takeOf g l).2))), (6, .one (.int .i64 (okI (closeErr g l) (takeOf g l).1))), (7, .one (.int .i64 (closeErr g l))), (8, .one (.int .i64 (closeErr g l))), (27, .one (.bool (decide ((closeErr g l) ≠ 0))))], []⟩ hT (by kernel_rfl) trivial ?_
    refine awp_cond (b := (decide ((closeErr g l) ≠ 0))) (by kernel_rfl) (fun c5 => ?_) (fun c5 => ?_)
    · -- yes 5
      try simp only [bs] at c5
      refine awp_run_seq [4] [] [((decide ((closeErr g l) = (closeErr g l))) = true → ((decide ((closeErr g l) = (closeErr g l))) = true → (decide ((closeErr g l) = (closeErr g l))) = true)), ((decide ((closeErr g l) = (closeErr g l))) = true → (decide ((closeErr g l) = (closeErr g l))) = true), (((decide ((closeErr g l) = (closeErr g l))) && (decide ((okI (closeErr g l) (takeOf g l).2) = 0))) = true → (((decide ((closeErr g l) = (closeErr g l))) && (decide ((okI (closeErr g l) (takeOf g l).2) = 0))) = true → ((decide ((closeErr g l) = (closeErr g l))) && (decide ((okI (closeErr g l) (takeOf g l).2) = 0))) = true)), (((decide ((closeErr g l) = (closeErr g l))) && (decide ((okI (closeErr g l) (takeOf g l).2) = 0))) = true → ((decide ((closeErr g l) = (closeErr g l))) && (decide ((okI (closeErr g l) (takeOf g l).2) = 0))) = true)] ⟨57, [(4, .one (.bool (((decide ((closeErr g l) = (closeErr g l))) && (decide ((okI (closeErr g l) (takeOf g l).2) = 0))) && (decide ((okI (closeErr g l) (takeOf g l).1) = 0)))))], []⟩ hT (by kernel_rfl) ⟨(by intro hg; first | exact hg | skip; (try simp only [bs] at hg ⊢); first | exact hg | first | omega | (simp only [lens]; omega) | (simp only [Bool.cond_decide]; omega) | grind), (fun h => h), (by intro hg; first | exact hg | skip; (try simp only [bs] at hg ⊢); first | exact hg | first | omega | (simp only [lens]; omega) | (simp only [Bool.cond_decide]; omega) | grind), (fun h => h), trivial⟩ ?_
      refine awp_ret ?_
      refine kRet.ret _ [] [] (.one (.bool (((decide ((closeErr g l) = (closeErr g l))) && (decide ((okI (closeErr g l) (takeOf g l).2) = 0))) && (decide ((okI (closeErr g l) (takeOf g l).1) = 0))))) [] (by kernel_rfl) trivial ?_
      exact ⟨congrArg (fun x1 => (.one (.bool x1) : AV)) (show (((decide ((closeErr g l) = (closeErr g l))) && (decide ((okI (closeErr g l) (takeOf g l).2) = 0))) && (decide ((okI (closeErr g l) (takeOf g l).1) = 0))) = true from by simp [okI, c5]), rfl⟩
    · -- no 5
      try simp only [bs] at c5
      have hE : closeErr g l = 0 := by omega
      have hC := closeErr_ok hE
      refine awp_skip ?_
      refine awp_seq (awp_region ?_)
      refine aops_run 2 [5, 6, 7, 40, 41] [] [] ⟨57, [(5, .one (.int .u16 (okI (closeErr g l) (takeOf g l).2))), (6, .one (.int .i64 (okI (closeErr g l) (takeOf g l).1))), (7, .one (.int .i64 (closeErr g l))), (40, .one (.ro (.ints .i64 g))), (41, .one (.ro (.arcs l)))], []⟩ hT (by kernel_rfl) (by kernel_rfl) trivial ?_
      refine aops_pure false ⟨true, [], 59, [.one (.ro (.ints .i64 g)), .one (.ro (.arcs l))], []⟩ [.one (.ro (.ints .i64 g)), .one (.ro (.arcs l))] (.tup [(false, [(.int .u16 ((takeOf g l).2))]), (false, [(.int .i64 ((takeOf g l).1))])]) ⟨57, [(5, .one (.int .u16 (okI (closeErr g l) (takeOf g l).2))), (6, .one (.int .i64 (okI (closeErr g l) (takeOf g l).1))), (7, .one (.int .i64 (closeErr g l))), (40, .one (.ro (.ints .i64 g))), (41, .one (.ro (.arcs l))), (42, .tup [(false, [(.int .u16 ((takeOf g l).2))]), (false, [(.int .i64 ((takeOf g l).1))])])], []⟩ (by kernel_rfl) (by kernel_rfl) (fun _ => trivial) rfl (fun _ => ref_takeOf g l (by assumption)) ?_
      refine aops_run 5 [5, 6, 7, 9, 10] [] [] ⟨57, [(5, .one (.int .u16 (okI (closeErr g l) (takeOf g l).2))), (6, .one (.int .i64 (okI (closeErr g l) (takeOf g l).1))), (7, .one (.int .i64 (closeErr g l))), (9, .one (.int .u16 ((takeOf g l).2))), (10, .one (.int .i64 ((takeOf g l).1)))], []⟩ hT (by kernel_rfl) (by kernel_rfl) trivial ?_
      refine aops_end_seq (by kernel_rfl) ?_
      refine awp_run_seq [4] [] [((decide ((closeErr g l) = 0)) = true → ((decide ((closeErr g l) = 0)) = true → (decide ((closeErr g l) = 0)) = true)), ((decide ((closeErr g l) = 0)) = true → ((decide ((closeErr g l) = 0)) = true → (decide ((closeErr g l) = 0)) = true)), ((decide ((closeErr g l) = 0)) = true → (decide ((closeErr g l) = 0)) = true), (((decide ((closeErr g l) = 0)) && (decide ((okI (closeErr g l) (takeOf g l).2) = (takeOf g l).2))) = true → (((decide ((closeErr g l) = 0)) && (decide ((okI (closeErr g l) (takeOf g l).2) = (takeOf g l).2))) = true → ((decide ((closeErr g l) = 0)) && (decide ((okI (closeErr g l) (takeOf g l).2) = (takeOf g l).2))) = true)), (((decide ((closeErr g l) = 0)) && (decide ((okI (closeErr g l) (takeOf g l).2) = (takeOf g l).2))) = true → (((decide ((closeErr g l) = 0)) && (decide ((okI (closeErr g l) (takeOf g l).2) = (takeOf g l).2))) = true → ((decide ((closeErr g l) = 0)) && (decide ((okI (closeErr g l) (takeOf g l).2) = (takeOf g l).2))) = true)), (((decide ((closeErr g l) = 0)) && (decide ((okI (closeErr g l) (takeOf g l).2) = (takeOf g l).2))) = true → ((decide ((closeErr g l) = 0)) && (decide ((okI (closeErr g l) (takeOf g l).2) = (takeOf g l).2))) = true)] ⟨57, [(4, .one (.bool (((decide ((closeErr g l) = 0)) && (decide ((okI (closeErr g l) (takeOf g l).2) = (takeOf g l).2))) && (decide ((okI (closeErr g l) (takeOf g l).1) = (takeOf g l).1)))))], []⟩ hT (by kernel_rfl) ⟨(by intro hg; first | exact hg | skip; (try simp only [bs] at hg ⊢); first | exact hg | first | omega | (simp only [lens]; omega) | (simp only [Bool.cond_decide]; omega) | grind), (by intro hg; first | exact hg | skip; (try simp only [bs] at hg ⊢); first | exact hg | first | omega | (simp only [lens]; omega) | (simp only [Bool.cond_decide]; omega) | grind), (fun h => h), (by intro hg; first | exact hg | skip; (try simp only [bs] at hg ⊢); first | exact hg | first | omega | (simp only [lens]; omega) | (simp only [Bool.cond_decide]; omega) | grind), (by intro hg; first | exact hg | skip; (try simp only [bs] at hg ⊢); first | exact hg | first | omega | (simp only [lens]; omega) | (simp only [Bool.cond_decide]; omega) | grind), (fun h => h), trivial⟩ ?_
      refine awp_ret ?_
      refine kRet.ret _ [] [] (.one (.bool (((decide ((closeErr g l) = 0)) && (decide ((okI (closeErr g l) (takeOf g l).2) = (takeOf g l).2))) && (decide ((okI (closeErr g l) (takeOf g l).1) = (takeOf g l).1))))) [] (by kernel_rfl) trivial ?_
      exact ⟨congrArg (fun x1 => (.one (.bool x1) : AV)) (show (((decide ((closeErr g l) = 0)) && (decide ((okI (closeErr g l) (takeOf g l).2) = (takeOf g l).2))) && (decide ((okI (closeErr g l) (takeOf g l).1) = (takeOf g l).1))) = true from by simp [okI, hE]), rfl⟩

end Go.Ab
