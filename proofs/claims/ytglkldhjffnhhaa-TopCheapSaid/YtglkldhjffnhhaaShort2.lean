/- Of short: From. -/
import Derived.Test.YtglkldhjffnhhaaTab
import Derived.Test.YtglkldhjffnhhaaShort1
set_option maxRecDepth 100000
namespace Go.Ab
open Go Go.Proofs
theorem short_from (n : Int) (es : List Arc) (s : Int) : ACall Try.prog 94 [.agg [(.int .i64 n), (.ro (.arcs es))], .one (.int .i64 s)] [] (fun ov oh => ∃ (f : List Int) (g : List Bool) (e : Int), (FromOk n es s f g e) ∧ ov = .tup [(false, [(.ro (.ints .i64 f))]), (false, [(.ro (.bools g))]), (false, [(.int .i64 e)])] ∧ oh = []) := by
  refine acall_intro hT Try.func94 rfl (by kernel_rfl) rfl (by kernel_rfl) ?_
  refine awp_run_seq [1, 2] [102] [] ⟨39, [(1, .one (.int .i64 s)), (2, .one (.ptr 102 0 0))], [(102, .box 1 2 [(.int .i64 n), (.ro (.arcs es))])]⟩ hT (by kernel_rfl) trivial ?_
  refine awp_seq ?_
  refine awp_seq (awp_region ?_)
  refine aops_run 1 [1, 2, 10] [102] [(0 < 1)] ⟨39, [(1, .one (.int .i64 s)), (2, .one (.ptr 102 0 0)), (10, .agg [(.int .i64 n), (.ro (.arcs es))])], [(102, .box 1 2 [(.int .i64 n), (.ro (.arcs es))])]⟩ hT (by kernel_rfl) (by kernel_rfl) ⟨(by decide), trivial⟩ ?_
  refine aops_pure false ⟨true, [], 97, [.agg [(.int .i64 n), (.ro (.arcs es))]], []⟩ [.agg [(.int .i64 n), (.ro (.arcs es))]] (.one (.int .i64 (graphErr n es (-10000)))) ⟨39, [(1, .one (.int .i64 s)), (2, .one (.ptr 102 0 0)), (10, .agg [(.int .i64 n), (.ro (.arcs es))]), (11, .one (.int .i64 (graphErr n es (-10000))))], [(102, .box 1 2 [(.int .i64 n), (.ro (.arcs es))])]⟩ (by kernel_rfl) (by kernel_rfl) (fun _ => trivial) rfl (fun _ => graph_CheckLong n es) ?_
  refine aops_run 1 [1, 2, 7] [102] [] ⟨39, [(1, .one (.int .i64 s)), (2, .one (.ptr 102 0 0)), (7, .one (.int .i64 (graphErr n es (-10000))))], [(102, .box 1 2 [(.int .i64 n), (.ro (.arcs es))])]⟩ hT (by kernel_rfl) (by kernel_rfl) trivial ?_
  refine aops_end_seq (by kernel_rfl) ?_
  refine awp_run_seq [1, 2, 7, 13] [102] [] ⟨39, [(1, .one (.int .i64 s)), (2, .one (.ptr 102 0 0)), (7, .one (.int .i64 (graphErr n es (-10000)))), (13, .one (.bool (decide ((graphErr n es (-10000)) ≠ 0))))], [(102, .box 1 2 [(.int .i64 n), (.ro (.arcs es))])]⟩ hT (by kernel_rfl) trivial ?_
  refine awp_cond (b := (decide ((graphErr n es (-10000)) ≠ 0))) (by kernel_rfl) (fun c2 => ?_) (fun c2 => ?_)
  · -- yes 2
    try simp only [bs] at c2
    refine awp_run_seq [4, 5, 6] [] [] ⟨39, [(4, .one .nils), (5, .one .nils), (6, .one (.int .i64 (graphErr n es (-10000))))], []⟩ hT (by kernel_rfl) trivial ?_
    refine awp_weak (awk_slot 4 (.one .nils) (.one (.ro (.ints .i64 []))) _ (by kernel_rfl) (.one (wkv_nil0 rfl))) ?_
    refine awp_weak (awk_slot 5 (.one .nils) (.one (.ro (.bools []))) _ (by kernel_rfl) (.one (wkv_nil0 rfl))) ?_
    refine awp_ret ?_
    refine kRet.ret _ [] [] (.tup [(false, [(.ro (.ints .i64 []))]), (false, [(.ro (.bools []))]), (false, [(.int .i64 (graphErr n es (-10000)))])]) [] (by kernel_rfl) trivial ?_
    exact ⟨[], [], (graphErr n es (-10000)), (by exact .inl ⟨c2, rfl, rfl, rfl⟩), (by kernel_rfl), (by kernel_rfl)⟩
  · -- no 2
    try simp only [bs] at c2
    have hE : (graphErr n es (-10000)) = 0 := by omega
    have hG := graphErr_ok hE
    have h1 := hG.n1
    have h2 := hG.n2
    have hA := hG.inR
    have hle := hG.len
    refine awp_skip ?_
    refine awp_seq ?_
    refine awp_run_seq [1, 2, 22] [102] [((!(decide (s < 0))) = true → ((!(decide (s < 0))) = true → (!(decide (s < 0))) = true)), ((!(decide (s < 0))) = true → (0 < 1)), ((!(decide (s < 0))) = true → ((!(decide (s < 0))) = true → (!(decide (s < 0))) = true)), ((!(decide (s < 0))) = true → ((!(decide (s < 0))) = true → (!(decide (s < 0))) = true)), ((!(decide (s < 0))) = true → (!(decide (s < 0))) = true)] ⟨39, [(1, .one (.int .i64 s)), (2, .one (.ptr 102 0 0)), (22, .one (.bool ((decide (s < 0)) || (decide (n ≤ s)))))], [(102, .box 1 2 [(.int .i64 n), (.ro (.arcs es))])]⟩ hT (by kernel_rfl) ⟨(by intro hg; first | exact hg | skip; (try simp only [bs] at hg ⊢); first | exact hg | first | omega | (simp only [lens]; omega) | (simp; done) | (simp; omega) | grind), (by intro hg; first | exact hg | skip; (try simp only [bs] at hg); first | exact hg | first | omega | (simp only [lens]; omega) | (simp; done) | (simp; omega) | grind), (by intro hg; first | exact hg | skip; (try simp only [bs] at hg ⊢); first | exact hg | first | omega | (simp only [lens]; omega) | (simp; done) | (simp; omega) | grind), (by intro hg; first | exact hg | skip; (try simp only [bs] at hg ⊢); first | exact hg | first | omega | (simp only [lens]; omega) | (simp; done) | (simp; omega) | grind), (fun h => h), trivial⟩ ?_
    refine awp_cond (b := ((decide (s < 0)) || (decide (n ≤ s)))) (by kernel_rfl) (fun c4 => ?_) (fun c4 => ?_)
    · -- yes 4
      try simp only [bs] at c4
      refine awp_run_seq [4, 5, 6] [] [] ⟨39, [(4, .one .nils), (5, .one .nils), (6, .one (.int .i64 4))], []⟩ hT (by kernel_rfl) trivial ?_
      refine awp_weak (awk_slot 4 (.one .nils) (.one (.ro (.ints .i64 []))) _ (by kernel_rfl) (.one (wkv_nil0 rfl))) ?_
      refine awp_weak (awk_slot 5 (.one .nils) (.one (.ro (.bools []))) _ (by kernel_rfl) (.one (wkv_nil0 rfl))) ?_
      refine awp_ret ?_
      refine kRet.ret _ [] [] (.tup [(false, [(.ro (.ints .i64 []))]), (false, [(.ro (.bools []))]), (false, [(.int .i64 4)])]) [] (by kernel_rfl) trivial ?_
      exact ⟨[], [], 4, (by exact .inr (.inl ⟨hE, by omega, rfl, rfl, rfl⟩)), (by kernel_rfl), (by kernel_rfl)⟩
    · -- no 4
      try simp only [bs] at c4
      have hSr : ∀ x, (fun x => x = s) x → 0 ≤ x ∧ x < n := fun x hx => by have : x = s := hx; omega
      have hRr : Rx n es (fun x => x = s) (List.replicate n.toNat (0 : Int)) (List.set (List.replicate n.toNat false) s.toNat true) := Rx.one (by omega)
      refine awp_skip ?_
      -- 8 of 8 operations in any order; 1 orders of the rest
      refine awp_seq (awp_calm2 [] false [[], [0], [0, 1], [], [3], [3, 4], [0, 1, 2], [0, 1, 2, 3, 4, 5, 6]] 8 [1, 2, 8, 9] [102, 125, 128] [(0, []), (1, [(0 < 1)]), (2, [((0 : Int) ≤ n), (n ≤ n), ((8 : Int) * n ≤ 281474976710656), (n ≤ 9223372036854775807)]), (3, []), (4, [(0 < 1)]), (5, [((0 : Int) ≤ n), (n ≤ n), ((1 : Int) * n ≤ 281474976710656), (n ≤ 9223372036854775807)]), (6, []), (7, [])] [] 1 ⟨39, [(1, .one (.int .i64 s)), (2, .one (.ptr 102 0 0)), (8, .one (.rw 125 0 (Int.toNat n))), (9, .one (.rw 128 0 (Int.toNat n)))], [(102, .box 1 2 [(.int .i64 n), (.ro (.arcs es))]), (125, .flat (.ints .i64 (List.replicate (Int.toNat n) (0 : Int)))), (128, .flat (.bools (List.replicate (Int.toNat n) false)))]⟩ (by kernel_rfl) (by kernel_rfl) hT (by kernel_rfl) (by kernel_rfl) ⟨trivial, ⟨(by decide), trivial⟩, ⟨(by first | omega | (simp only [lens]; omega) | (simp; done) | (simp; omega)), (by first | omega | (simp only [lens]; omega) | (simp; done) | (simp; omega)), (by first | omega | (simp only [lens]; omega) | (simp; done) | (simp; omega)), (by first | omega | (simp only [lens]; omega) | (simp; done) | (simp; omega)), trivial⟩, trivial, ⟨(by decide), trivial⟩, ⟨(by first | omega | (simp only [lens]; omega) | (simp; done) | (simp; omega)), (by first | omega | (simp only [lens]; omega) | (simp; done) | (simp; omega)), (by first | omega | (simp only [lens]; omega) | (simp; done) | (simp; omega)), (by first | omega | (simp only [lens]; omega) | (simp; done) | (simp; omega)), trivial⟩, trivial, trivial, trivial⟩ trivial ?_)
      refine awp_run_seq [2, 8, 9] [102, 125, 128] [((0 : Int) ≤ s), (s < (((Int.toNat n) : Nat) : Int)), ((Int.toNat s) < (List.length (List.replicate (Int.toNat n) false)))] ⟨39, [(2, .one (.ptr 102 0 0)), (8, .one (.rw 125 0 (Int.toNat n))), (9, .one (.rw 128 0 (Int.toNat n)))], [(102, .box 1 2 [(.int .i64 n), (.ro (.arcs es))]), (125, .flat (.ints .i64 (List.replicate (Int.toNat n) (0 : Int)))), (128, .flat (.bools (List.set (List.replicate (Int.toNat n) false) (Int.toNat s) true)))]⟩ hT (by kernel_rfl) ⟨(by first | omega | (simp only [lens]; omega) | (simp; done) | (simp; omega)), (by first | omega | (simp only [lens]; omega) | (simp; done) | (simp; omega)), (by first | omega | (simp only [lens]; omega) | (simp; done) | (simp; omega)), trivial⟩ ?_
      refine awp_seq ?_
      refine awp_seq (awp_region ?_)
      refine aops_run 3 [8, 9, 32, 33, 34] [125, 128] [(0 < 1)] ⟨39, [(8, .one (.rw 125 0 (Int.toNat n))), (9, .one (.rw 128 0 (Int.toNat n))), (32, .agg [(.int .i64 n), (.ro (.arcs es))]), (33, .one (.rw 125 0 (Int.toNat n))), (34, .one (.rw 128 0 (Int.toNat n)))], [(125, .flat (.ints .i64 (List.replicate (Int.toNat n) (0 : Int)))), (128, .flat (.bools (List.set (List.replicate (Int.toNat n) false) (Int.toNat s) true)))]⟩ hT (by kernel_rfl) (by kernel_rfl) ⟨(by decide), trivial⟩ ?_
      refine aops_call [(1, 125), (2, 128)] [] false ⟨true, [], 98, [.agg [(.int .i64 n), (.ro (.arcs es))], .one (.rw 1 0 (Int.toNat n)), .one (.rw 2 0 (Int.toNat n))], [(1, .flat (.ints .i64 (List.replicate (Int.toNat n) (0 : Int)))), (2, .flat (.bools (List.set (List.replicate (Int.toNat n) false) (Int.toNat s) true)))]⟩ [.agg [(.int .i64 n), (.ro (.arcs es))], .one (.rw 1 0 (Int.toNat n)), .one (.rw 2 0 (Int.toNat n))] (sm := ⟨39, [(8, .one (.rw 125 0 (Int.toNat n))), (9, .one (.rw 128 0 (Int.toNat n))), (32, .agg [(.int .i64 n), (.ro (.arcs es))]), (33, .one (.rw 125 0 (Int.toNat n))), (34, .one (.rw 128 0 (Int.toNat n))), (35, .whn false (.one .any))], [(125, .flat (.ints .i64 (List.replicate (Int.toNat n) (0 : Int)))), (128, .flat (.bools (List.set (List.replicate (Int.toNat n) false) (Int.toNat s) true)))]⟩) (by kernel_rfl) (by kernel_rfl) (by decide) (fun _ => trivial) rfl (fun _ => short_relax n es (fun x => x = s) (List.replicate (Int.toNat n) (0 : Int)) (List.set (List.replicate (Int.toNat n) false) (Int.toNat s) true) hG hSr hRr (by exact Bnd.zero)) (fun _ v Hr hv => ?_) (fun h => by cases h)
      obtain ⟨b, f, g, hbt, hbf, hlf, hlg, rfl, rfl⟩ := hv
      refine ⟨⟨39, [(8, .one (.rw 125 0 (Int.toNat n))), (9, .one (.rw 128 0 (Int.toNat n))), (32, .agg [(.int .i64 n), (.ro (.arcs es))]), (33, .one (.rw 125 0 (Int.toNat n))), (34, .one (.rw 128 0 (Int.toNat n))), (35, .one (.bool b))], [(125, .flat (.ints .i64 f)), (128, .flat (.bools g))]⟩, by kernel_rfl, ?_⟩
      refine aops_run 1 [8, 9, 36] [125, 128] [] ⟨39, [(8, .one (.rw 125 0 (Int.toNat n))), (9, .one (.rw 128 0 (Int.toNat n))), (36, .one (.bool (!b)))], [(125, .flat (.ints .i64 f)), (128, .flat (.bools g))]⟩ hT (by kernel_rfl) (by kernel_rfl) trivial ?_
      refine aops_end_seq (by kernel_rfl) ?_
      refine awp_cond (b := (!b)) (by kernel_rfl) (fun c8 => ?_) (fun c8 => ?_)
      · -- yes 8
        try simp only [bs] at c8
        refine awp_run_seq [4, 5, 6] [] [] ⟨39, [(4, .one .nils), (5, .one .nils), (6, .one (.int .i64 6))], []⟩ hT (by kernel_rfl) trivial ?_
        refine awp_weak (awk_slot 4 (.one .nils) (.one (.ro (.ints .i64 []))) _ (by kernel_rfl) (.one (wkv_nil0 rfl))) ?_
        refine awp_weak (awk_slot 5 (.one .nils) (.one (.ro (.bools []))) _ (by kernel_rfl) (.one (wkv_nil0 rfl))) ?_
        refine awp_ret ?_
        refine kRet.ret _ [] [] (.tup [(false, [(.ro (.ints .i64 []))]), (false, [(.ro (.bools []))]), (false, [(.int .i64 6)])]) [] (by kernel_rfl) trivial ?_
        exact ⟨[], [], 6, (by exact .inr (.inr (.inl ⟨hE, by omega, rfl, rfl, rfl, hbf (by simpa using c8)⟩))), (by kernel_rfl), (by kernel_rfl)⟩
      · -- no 8
        try simp only [bs] at c8
        refine awp_skip ?_
        refine awp_weak (awk_seal 125 (s' := ⟨39, [(8, .one (.ro (.ints .i64 (List.take (Int.toNat n) f)))), (9, .one (.rw 128 0 (Int.toNat n))), (36, .one (.bool (!b)))], [(128, .flat (.bools g))]⟩) (by kernel_rfl)) ?_
        rw [show (List.take (Int.toNat n) f) = f from List.take_of_length_le (by first | omega | simp)]
        refine awp_weak (awk_seal 128 (s' := ⟨39, [(8, .one (.ro (.ints .i64 f))), (9, .one (.ro (.bools (List.take (Int.toNat n) g)))), (36, .one (.bool (!b)))], []⟩) (by kernel_rfl)) ?_
        rw [show (List.take (Int.toNat n) g) = g from List.take_of_length_le (by first | omega | simp)]
        refine awp_run_seq [4, 5, 6] [] [] ⟨39, [(4, .one (.ro (.ints .i64 f))), (5, .one (.ro (.bools g))), (6, .one (.int .i64 0))], []⟩ hT (by kernel_rfl) trivial ?_
        refine awp_ret ?_
        refine kRet.ret _ [] [] (.tup [(false, [(.ro (.ints .i64 f))]), (false, [(.ro (.bools g))]), (false, [(.int .i64 0)])]) [] (by kernel_rfl) trivial ?_
        exact ⟨f, g, 0, (by exact .inr (.inr (.inr ⟨hE, by omega, rfl, hbt (by simpa using c8)⟩))), (by kernel_rfl), (by kernel_rfl)⟩

end Go.Ab
