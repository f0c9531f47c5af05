/- Of even tables: Split. -/
import Derived.Test.YtakfbagokponeaaTab
import Derived.Test.YtakfbagokponeaaDbl1
import Derived.Test.YtakfbagokponeaaDbl2
import Derived.Test.YtakfbagokponeaaF2
import Derived.Test.YtakfbagokponeaaPlDouble
set_option maxRecDepth 100000
namespace Go.Ab
open Go Go.Proofs
theorem double_split (t : List (List Int)) : ACall Try.prog 15 [.one (.rs (.rows t))] [] (fun ov oh => ov = .tup [(false, [(.rs (.pieces (okL (sumE t) (pcsOf t.length (Int.toNat (sumV t)) t (sumV t)))))]), (false, [(.int .i64 (sumE t))])] ∧ oh = []) := by
  refine acall_intro hT Try.func15 rfl (by kernel_rfl) rfl (by kernel_rfl) ?_
  refine awp_run_seq [0] [] [] ⟨94, [(0, .one (.rs (.rows t)))], []⟩ hT (by kernel_rfl) trivial ?_
  refine awp_seq (awp_region ?_)
  refine aops_run 1 [0, 16] [] [] ⟨94, [(0, .one (.rs (.rows t))), (16, .one (.rs (.rows t)))], []⟩ hT (by kernel_rfl) (by kernel_rfl) trivial ?_
  refine aops_pure false ⟨true, [], 14, [.one (.rs (.rows t))], []⟩ [.one (.rs (.rows t))] (.tup [(false, [(.int .i64 (sumV t))]), (false, [(.int .i64 (sumE t))])]) ⟨94, [(0, .one (.rs (.rows t))), (16, .one (.rs (.rows t))), (17, .tup [(false, [(.int .i64 (sumV t))]), (false, [(.int .i64 (sumE t))])])], []⟩ (by kernel_rfl) (by kernel_rfl) (fun _ => trivial) rfl (fun _ => double_check t) ?_
  refine aops_run 5 [0, 4, 5] [] [] ⟨94, [(0, .one (.rs (.rows t))), (4, .one (.int .i64 (sumV t))), (5, .one (.int .i64 (sumE t)))], []⟩ hT (by kernel_rfl) (by kernel_rfl) trivial ?_
  refine aops_end_seq (by kernel_rfl) ?_
  refine awp_seq ?_
  refine awp_run_seq [0, 4, 5, 21] [] [] ⟨94, [(0, .one (.rs (.rows t))), (4, .one (.int .i64 (sumV t))), (5, .one (.int .i64 (sumE t))), (21, .one (.bool (decide ((sumE t) ≠ 0))))], []⟩ hT (by kernel_rfl) trivial ?_
  refine awp_cond (b := (decide ((sumE t) ≠ 0))) (by kernel_rfl) (fun c2 => ?_) (fun c2 => ?_)
  · -- yes 2
    try simp only [bs] at c2
    have hS0 : (sumE t) ≠ 0 := c2
    refine awp_run_seq [2, 3] [] [] ⟨94, [(2, .one .nils), (3, .one (.int .i64 (sumE t)))], []⟩ hT (by kernel_rfl) trivial ?_
    refine awp_weak (awk_slot 2 (.one .nils) (.one (.rs (.pieces []))) _ (by kernel_rfl) (.one (wkv_nil1 rfl))) ?_
    refine awp_ret ?_
    refine kRet.ret _ [] [] (.tup [(false, [(.rs (.pieces []))]), (false, [(.int .i64 (sumE t))])]) [] (by kernel_rfl) trivial ?_
    exact ⟨congrArg (fun x1 => (.tup [(false, [(.rs (.pieces x1))]), (false, [(.int .i64 (sumE t))])] : AV)) (show [] = (okL (sumE t) (pcsOf t.length (Int.toNat (sumV t)) t (sumV t))) from by exact (okL_no _ hS0).symm), rfl⟩
  · -- no 2
    try simp only [bs] at c2
    have hS : (sumE t) = 0 := by omega
    have hT0 := tab0_of (show tabErr t 0 = 0 by unfold sumE at hS; split at hS; exact absurd hS (by assumption); omega)
    have hev : evenB t = true := by unfold sumE at hS; split at hS; omega; split at hS; assumption; omega
    have hSVv : sumV t = rowS t t.length 0 := by rw [sumV, if_pos hS]
    have hDS0 : DS t.length t (sumV t) := by rw [hSVv]; exact even_ds hT0 hev
    have h6 := hT0.n6
    have hsb : 0 ≤ sumV t ∧ sumV t ≤ 6000 := by
      rcases Nat.eq_zero_or_pos t.length with z | z
      · rw [hSVv]; unfold rowS; rw [z]; exact ⟨Int.le_refl _, by show (0 : Int) ≤ 6000; decide⟩
      · rw [hSVv]; exact hT0.rowb z (Nat.le_refl _)
    refine awp_skip ?_
    refine awp_run_seq [0, 4, 6] [125] [((0 : Int) ≤ ((t.length : Nat) : Int)), (((t.length : Nat) : Int) ≤ ((t.length : Nat) : Int)), ((24 : Int) * ((t.length : Nat) : Int) ≤ 281474976710656), (((t.length : Nat) : Int) ≤ 9223372036854775807)] ⟨94, [(0, .one (.rs (.rows t))), (4, .one (.int .i64 (sumV t))), (6, .one (.rw 125 0 t.length))], [(125, .recs (.rows (List.replicate t.length ([] : List Int))))]⟩ hT (by kernel_rfl) ⟨(by first | omega | (simp only [lens]; omega) | (simp only [Bool.cond_decide]; omega) | (simp only [nadd_eq]; omega)), (by first | omega | (simp only [lens]; omega) | (simp only [Bool.cond_decide]; omega) | (simp only [nadd_eq]; omega)), (by first | omega | (simp only [lens]; omega) | (simp only [Bool.cond_decide]; omega) | (simp only [nadd_eq]; omega)), (by first | omega | (simp only [lens]; omega) | (simp only [Bool.cond_decide]; omega) | (simp only [nadd_eq]; omega)), trivial⟩ ?_
    refine awp_seq ?_
    refine awp_run_seq [4, 6, 26, 27, 28] [125] [] ⟨94, [(4, .one (.int .i64 (sumV t))), (6, .one (.rw 125 0 t.length)), (26, .one (.rs (.rows t))), (27, .one (.int .i64 ((t.length : Nat) : Int))), (28, .one (.int .i64 0))], [(125, .recs (.rows (List.replicate t.length ([] : List Int))))]⟩ hT (by kernel_rfl) trivial ?_
    refine awp_block ?_
    refine awp_weak (awk_mat 125 (List.replicate t.length ([] : List Int)) _ (by kernel_rfl) (fun _ => by first | exact rows_nil _ _ | (simp; done))) ?_
    refine awp_loop (I := fun κ σ => ∃ (i : Nat) (Atab : List (List Int)), ((i ≤ t.length) ∧ (Atab.length = t.length) ∧ (∀ r, r < i → Atab.getD r [] = t.getD r []) ∧ t.length - i = κ) ∧ σ = ⟨94, [(4, .one (.int .i64 (sumV t))), (6, .one (.rw 125 0 t.length)), (26, .one (.rs (.rows t))), (27, .one (.int .i64 ((t.length : Nat) : Int))), (28, .one (.int .i64 ((i : Nat) : Int)))], [(125, .mat 125 Atab)]⟩) _ ⟨0, (List.replicate t.length ([] : List Int)), ⟨(by omega), (by exact List.length_replicate), (by intro r hr; omega), rfl⟩, (by kernel_rfl)⟩ ?_
    rintro κ _ ⟨i, Atab, ⟨hi, hAl, hAr, rfl⟩, rfl⟩
    refine awp_run_seq [4, 6, 26, 27, 28, 29] [125] [] ⟨94, [(4, .one (.int .i64 (sumV t))), (6, .one (.rw 125 0 t.length)), (26, .one (.rs (.rows t))), (27, .one (.int .i64 ((t.length : Nat) : Int))), (28, .one (.int .i64 ((i : Nat) : Int))), (29, .one (.bool (decide (((i : Nat) : Int) < ((t.length : Nat) : Int)))))], [(125, .mat 125 Atab)]⟩ hT (by kernel_rfl) trivial ?_
    refine awp_seq ?_
    refine awp_cond (b := (decide (((i : Nat) : Int) < ((t.length : Nat) : Int)))) (by kernel_rfl) (fun c6 => ?_) (fun c6 => ?_)
    · -- yes 6
      try simp only [bs] at c6
      have hil : i < t.length := by omega
      have hri := hT0.sq.row i hil
      refine awp_skip ?_
      refine awp_seq ?_
      refine awp_block ?_
      refine awp_run_seq [4, 6, 7, 8, 26, 27, 28] [125] [((0 : Int) ≤ ((i : Nat) : Int)), (((i : Nat) : Int) < ((t.length : Nat) : Int))] ⟨94, [(4, .one (.int .i64 (sumV t))), (6, .one (.rw 125 0 t.length)), (7, .one (.int .i64 ((i : Nat) : Int))), (8, .one (.ro (.ints .i64 (List.getD t i [])))), (26, .one (.rs (.rows t))), (27, .one (.int .i64 ((t.length : Nat) : Int))), (28, .one (.int .i64 ((i : Nat) : Int)))], [(125, .mat 125 Atab)]⟩ hT (by kernel_rfl) ⟨(by first | omega | (simp only [lens]; omega) | (simp only [Bool.cond_decide]; omega) | (simp only [nadd_eq]; omega)), (by first | omega | (simp only [lens]; omega) | (simp only [Bool.cond_decide]; omega) | (simp only [nadd_eq]; omega)), trivial⟩ ?_
      refine awp_region ?_
      refine aops_run 3 [4, 6, 26, 27, 28, 33, 34, 35] [125] [] ⟨94, [(4, .one (.int .i64 (sumV t))), (6, .one (.rw 125 0 t.length)), (26, .one (.rs (.rows t))), (27, .one (.int .i64 ((t.length : Nat) : Int))), (28, .one (.int .i64 ((i : Nat) : Int))), (33, .one (.rw 125 0 t.length)), (34, .one (.int .i64 ((i : Nat) : Int))), (35, .one (.ro (.ints .i64 (List.getD t i []))))], [(125, .mat 125 Atab)]⟩ hT (by kernel_rfl) (by kernel_rfl) trivial ?_
      refine aops_call [] [(9001, 136)] false ⟨true, [], 64, [.one (.ro (.ints .i64 (List.getD t i [])))], []⟩ [.one (.ro (.ints .i64 (List.getD t i [])))] (sm := ⟨94, [(4, .one (.int .i64 (sumV t))), (6, .one (.rw 125 0 t.length)), (26, .one (.rs (.rows t))), (27, .one (.int .i64 ((t.length : Nat) : Int))), (28, .one (.int .i64 ((i : Nat) : Int))), (33, .one (.rw 125 0 t.length)), (34, .one (.int .i64 ((i : Nat) : Int))), (35, .one (.ro (.ints .i64 (List.getD t i [])))), (36, .whn false (.one .any))], [(125, .mat 125 Atab)]⟩) (by kernel_rfl) (by kernel_rfl) (by decide) (fun _ => trivial) rfl (fun _ => clone_ints (List.getD t i []) (by first | omega | (simp; omega))) (fun _ v Hr hv => ?_) (fun h => by cases h)
      obtain ⟨rfl, rfl⟩ := hv
      refine ⟨⟨94, [(4, .one (.int .i64 (sumV t))), (6, .one (.rw 125 0 t.length)), (26, .one (.rs (.rows t))), (27, .one (.int .i64 ((t.length : Nat) : Int))), (28, .one (.int .i64 ((i : Nat) : Int))), (33, .one (.rw 125 0 t.length)), (34, .one (.int .i64 ((i : Nat) : Int))), (35, .one (.ro (.ints .i64 (List.getD t i [])))), (36, .one (.rw 136 0 (List.length (List.getD t i []))))], [(125, .mat 125 Atab), (136, .flat (.ints .i64 (List.getD t i [])))]⟩, by kernel_rfl, ?_⟩
      refine aops_run 1 [4, 6, 26, 27, 28, 36, 37] [125, 136] [((0 : Int) ≤ ((i : Nat) : Int)), (((i : Nat) : Int) < ((t.length : Nat) : Int))] ⟨94, [(4, .one (.int .i64 (sumV t))), (6, .one (.rw 125 0 t.length)), (26, .one (.rs (.rows t))), (27, .one (.int .i64 ((t.length : Nat) : Int))), (28, .one (.int .i64 ((i : Nat) : Int))), (36, .one (.rw 136 0 (List.length (List.getD t i [])))), (37, .one (.ptr 125 i 0))], [(125, .mat 125 Atab), (136, .flat (.ints .i64 (List.getD t i [])))]⟩ hT (by kernel_rfl) (by kernel_rfl) ⟨(by first | omega | (simp only [lens]; omega) | (simp only [Bool.cond_decide]; omega) | (simp only [nadd_eq]; omega)), (by first | omega | (simp only [lens]; omega) | (simp only [Bool.cond_decide]; omega) | (simp only [nadd_eq]; omega)), trivial⟩ ?_
      refine aops_absorb (A := 125) (R := 136) (i := i) (n := (List.length (List.getD t i []))) (xss := Atab) (ys := (List.getD t i [])) hT rfl rfl rfl rfl (show T 25 = some _ from rfl) rfl (by kernel_rfl) (by kernel_rfl) rfl rfl rfl rfl (by first | omega | (simp only [lens]; omega) | (simp only [Bool.cond_decide]; omega) | (simp only [nadd_eq]; omega)) (by first | (simp; done) | first | omega | (simp only [lens]; omega) | (simp only [Bool.cond_decide]; omega) | (simp only [nadd_eq]; omega)) ?_
      refine aops_cut [4, 6, 26, 27, 28, 36, 37] [125] ⟨94, [(4, .one (.int .i64 (sumV t))), (6, .one (.rw 125 0 t.length)), (26, .one (.rs (.rows t))), (27, .one (.int .i64 ((t.length : Nat) : Int))), (28, .one (.int .i64 ((i : Nat) : Int))), (36, .one .any), (37, .one (.ptr 125 i 0))], [(125, .mat 125 (List.set Atab i (List.getD t i [])))]⟩ (by kernel_rfl) ?_
      refine aops_cut [4, 6, 26, 27, 28] [125] ⟨94, [(4, .one (.int .i64 (sumV t))), (6, .one (.rw 125 0 t.length)), (26, .one (.rs (.rows t))), (27, .one (.int .i64 ((t.length : Nat) : Int))), (28, .one (.int .i64 ((i : Nat) : Int)))], [(125, .mat 125 (List.set Atab i (List.getD t i [])))]⟩ (by kernel_rfl) ?_
      refine aops_end (by kernel_rfl) ?_
      refine awp_run [4, 6, 26, 27, 28] [125] [(-9223372036854775808 ≤ (((i + 1) : Nat) : Int) ∧ (((i + 1) : Nat) : Int) ≤ 9223372036854775807)] ⟨94, [(4, .one (.int .i64 (sumV t))), (6, .one (.rw 125 0 t.length)), (26, .one (.rs (.rows t))), (27, .one (.int .i64 ((t.length : Nat) : Int))), (28, .one (.int .i64 (((i + 1) : Nat) : Int)))], [(125, .mat 125 (List.set Atab i (List.getD t i [])))]⟩ hT (by kernel_rfl) ⟨(by first | omega | (simp only [lens]; omega) | (simp only [Bool.cond_decide]; omega) | (simp only [nadd_eq]; omega)), trivial⟩ ?_
      refine loop_end _ ?_ ⟨(i + 1), (List.set Atab i (List.getD t i [])), ⟨(by omega), (by rw [List.length_set]; exact hAl), (by intro r hr; rcases Nat.lt_succ_iff_lt_or_eq.1 hr with q | q; rw [getD_set_ne _ _ _ _ _ (by omega)]; exact hAr r q; subst q; exact getD_set_self _ _ _ _ (by omega)), rfl⟩, (by kernel_rfl)⟩
      omega
    · -- no 6
      try simp only [bs] at c6
      have hAt : Atab = t := list_ext [] hAl (fun r hr => hAr r (by omega))
      refine awp_exit ?_
      rw [show Atab = t from hAt]
      refine awp_run_seq [4, 6, 9] [125] [] ⟨94, [(4, .one (.int .i64 (sumV t))), (6, .one (.rw 125 0 t.length)), (9, .one .nils)], [(125, .mat 125 t)]⟩ hT (by kernel_rfl) trivial ?_
      refine awp_seq ?_
      refine awp_block ?_
      refine awp_weak (awk_empty 5009 (.recs (.pieces [])) rfl (by decide) _) ?_
      refine awp_weak (awk_slot 9 (.one .nils) (.one (.rw 5009 0 0)) _ (by kernel_rfl) (.one (wkv_nils (o := .recs (.pieces [])) (by kernel_rfl)))) ?_
      refine awp_loop (I := fun κ σ => ∃ (L : List (List Int)) (s : Int) (ps : List (Int × List Int)), ((DS t.length L s) ∧ (0 ≤ s) ∧ ((ps.length : Int) + s ≤ 6000) ∧ (ps ++ pcsOf t.length s.toNat L s = (pcsOf t.length (Int.toNat (sumV t)) t (sumV t))) ∧ s.toNat = κ) ∧ σ = ⟨94, [(4, .one (.int .i64 s)), (6, .one (.rw 125 0 t.length)), (9, .one (.rw 5009 0 ps.length))], [(125, .mat 125 L), (5009, .recs (.pieces ps))]⟩) _ ⟨t, (sumV t), [], ⟨(by exact hDS0), (by omega), (by simp; omega), (by rfl), rfl⟩, (by kernel_rfl)⟩ ?_
      rintro κ _ ⟨L, s, ps, ⟨hDS, hs0, hpl, hps, rfl⟩, rfl⟩
      have hLl := hDS.sq.len
      have hsqL : Sq L.length L := by rw [hLl]; exact hDS.sq
      refine awp_seq ?_
      refine awp_run_seq [4, 6, 9, 40] [125, 5009] [] ⟨94, [(4, .one (.int .i64 s)), (6, .one (.rw 125 0 t.length)), (9, .one (.rw 5009 0 ps.length)), (40, .one (.bool (decide ((0 : Int) < s))))], [(125, .mat 125 L), (5009, .recs (.pieces ps))]⟩ hT (by kernel_rfl) trivial ?_
      refine awp_cond (b := (decide ((0 : Int) < s))) (by kernel_rfl) (fun c11 => ?_) (fun c11 => ?_)
      · -- yes 11
        try simp only [bs] at c11
        obtain ⟨q, hq, hfull, hok⟩ := hDS.some (by omega)
        have hqL : frst L.length L L.length [] = some q := by rw [hLl]; exact hq
        have hokI := okAll_iff.1 hok
        have hql := hfull.1
        rw [hql] at hokI
        obtain ⟨aA, haA⟩ : ∃ a, amtTo L q s t.length = a := ⟨_, rfl⟩
        have hap := amt_pos (L := L) (q := q) (b := s) (by omega) hokI
        have hat := amt_top (L := L) (q := q) (b := s) (m := t.length)
        rw [haA] at hap hat
        have hsub := hDS.sub (a := aA) hfull (fun i hi => by rw [← haA]; exact amt_le hi)
        obtain ⟨f, hf⟩ : ∃ f, s.toNat = f + 1 := ⟨s.toNat - 1, by omega⟩
        have hgo := pcs_go (n := t.length) (f := f) (show 0 < s by omega) hq
        rw [haA] at hgo
        have hfu := pcs_fuel (f := f) (g := (s - aA).toNat) hsub (by omega) (by omega)
        rw [hf, hgo, hfu] at hps
        refine awp_skip ?_
        refine awp_block ?_
        refine awp_seq (awp_region ?_)
        refine aops_run 2 [4, 6, 9, 41, 42] [125, 5009] [] ⟨94, [(4, .one (.int .i64 s)), (6, .one (.rw 125 0 t.length)), (9, .one (.rw 5009 0 ps.length)), (41, .one (.int .i64 s)), (42, .one (.rw 125 0 t.length))], [(125, .mat 125 L), (5009, .recs (.pieces ps))]⟩ hT (by kernel_rfl) (by kernel_rfl) trivial ?_
        refine aops_call [] [(9001, 143)] true ⟨true, [], 65, [.one (.rs (.rows (List.take t.length L))), .one (.int .i64 0), .one .nils], []⟩ [.one (.rs (.rows L)), .one (.int .i64 0), .one .nils] (sm := ⟨94, [(4, .one (.int .i64 s)), (6, .one (.rw 125 0 t.length)), (9, .one (.rw 5009 0 ps.length)), (41, .one (.int .i64 s)), (42, .one (.rw 125 0 t.length)), (43, .whn false (.one .any))], [(125, .mat 125 L), (5009, .recs (.pieces ps))]⟩) (by kernel_rfl) (by kernel_rfl) (by decide) (fun _ => trivial) (by rw [show (List.take t.length L) = L from List.take_of_length_le (by omega)]) (fun _ => (double_first0 L hsqL (by omega) q hqL).pre (.cons (.refl _) (.cons (.refl _) (.cons (.one (wkv_nil0 rfl)) .nil)))) (fun _ v Hr hv => ?_) (fun h => by cases h)
        obtain ⟨rfl, rfl⟩ := hv
        refine ⟨⟨94, [(4, .one (.int .i64 s)), (6, .one (.rw 125 0 t.length)), (9, .one (.rw 5009 0 ps.length)), (41, .one (.int .i64 s)), (42, .one (.rw 125 0 t.length)), (43, .one (.rw 143 0 q.length))], [(125, .mat 125 L), (143, .flat (.ints .i64 q)), (5009, .recs (.pieces ps))]⟩, by kernel_rfl, ?_⟩
        refine aops_run 3 [4, 6, 9, 10] [110, 125, 143, 5009] [(0 < 1)] ⟨94, [(4, .one (.int .i64 s)), (6, .one (.rw 125 0 t.length)), (9, .one (.rw 5009 0 ps.length)), (10, .one (.ptr 110 0 0))], [(110, .box 1 2 [(.int .i64 s), (.rw 143 0 q.length)]), (125, .mat 125 L), (143, .flat (.ints .i64 q)), (5009, .recs (.pieces ps))]⟩ hT (by kernel_rfl) (by kernel_rfl) ⟨(by decide), trivial⟩ ?_
        refine aops_end_seq (by kernel_rfl) ?_
        refine awp_seq ?_
        refine awp_weak (awk_seal 143 (s' := ⟨94, [(4, .one (.int .i64 s)), (6, .one (.rw 125 0 t.length)), (9, .one (.rw 5009 0 ps.length)), (10, .one (.ptr 110 0 0))], [(110, .box 1 2 [(.int .i64 s), (.ro (.ints .i64 (List.take q.length q)))]), (125, .mat 125 L), (5009, .recs (.pieces ps))]⟩) (by kernel_rfl)) ?_
        rw [show (List.take q.length q) = q from List.take_of_length_le (by first | omega | simp)]
        refine awp_run_seq [4, 6, 9, 10, 46, 47, 48] [110, 125, 5009] [(0 < 1)] ⟨94, [(4, .one (.int .i64 s)), (6, .one (.rw 125 0 t.length)), (9, .one (.rw 5009 0 ps.length)), (10, .one (.ptr 110 0 0)), (46, .one (.ro (.ints .i64 q))), (47, .one (.int .i64 ((q.length : Nat) : Int))), (48, .one (.int .i64 0))], [(110, .box 1 2 [(.int .i64 s), (.ro (.ints .i64 q))]), (125, .mat 125 L), (5009, .recs (.pieces ps))]⟩ hT (by kernel_rfl) ⟨(by decide), trivial⟩ ?_
        refine awp_block ?_
        refine awp_loop (I := fun κ σ => ∃ (i : Nat), ((i ≤ q.length) ∧ q.length - i = κ) ∧ σ = ⟨94, [(4, .one (.int .i64 s)), (6, .one (.rw 125 0 t.length)), (9, .one (.rw 5009 0 ps.length)), (10, .one (.ptr 110 0 0)), (46, .one (.ro (.ints .i64 q))), (47, .one (.int .i64 ((q.length : Nat) : Int))), (48, .one (.int .i64 ((i : Nat) : Int)))], [(110, .box 1 2 [(.int .i64 (amtTo L q s i)), (.ro (.ints .i64 q))]), (125, .mat 125 L), (5009, .recs (.pieces ps))]⟩) _ ⟨0, ⟨(by omega), rfl⟩, (by kernel_rfl)⟩ ?_
        rintro κ _ ⟨i, ⟨hi, rfl⟩, rfl⟩
        refine awp_run_seq [4, 6, 9, 10, 46, 47, 48, 49] [110, 125, 5009] [] ⟨94, [(4, .one (.int .i64 s)), (6, .one (.rw 125 0 t.length)), (9, .one (.rw 5009 0 ps.length)), (10, .one (.ptr 110 0 0)), (46, .one (.ro (.ints .i64 q))), (47, .one (.int .i64 ((q.length : Nat) : Int))), (48, .one (.int .i64 ((i : Nat) : Int))), (49, .one (.bool (decide (((i : Nat) : Int) < ((q.length : Nat) : Int)))))], [(110, .box 1 2 [(.int .i64 (amtTo L q s i)), (.ro (.ints .i64 q))]), (125, .mat 125 L), (5009, .recs (.pieces ps))]⟩ hT (by kernel_rfl) trivial ?_
        refine awp_seq ?_
        refine awp_cond (b := (decide (((i : Nat) : Int) < ((q.length : Nat) : Int)))) (by kernel_rfl) (fun c14 => ?_) (fun c14 => ?_)
        · -- yes 14
          try simp only [bs] at c14
          have hin : i < t.length := by omega
          have hqi := hfull.at_ hin
          have hrow := hDS.sq.row i hin
          refine awp_skip ?_
          refine awp_seq ?_
          refine awp_block ?_
          refine awp_run_seq [4, 6, 9, 10, 11, 12, 46, 47, 48] [110, 125, 5009] [((0 : Int) ≤ ((i : Nat) : Int)), (((i : Nat) : Int) < ((q.length : Nat) : Int))] ⟨94, [(4, .one (.int .i64 s)), (6, .one (.rw 125 0 t.length)), (9, .one (.rw 5009 0 ps.length)), (10, .one (.ptr 110 0 0)), (11, .one (.int .i64 ((i : Nat) : Int))), (12, .one (.int .i64 (List.getD q i 0))), (46, .one (.ro (.ints .i64 q))), (47, .one (.int .i64 ((q.length : Nat) : Int))), (48, .one (.int .i64 ((i : Nat) : Int)))], [(110, .box 1 2 [(.int .i64 (amtTo L q s i)), (.ro (.ints .i64 q))]), (125, .mat 125 L), (5009, .recs (.pieces ps))]⟩ hT (by kernel_rfl) ⟨(by first | omega | (simp only [lens]; omega) | (simp only [Bool.cond_decide]; omega) | (simp only [nadd_eq]; omega)), (by first | omega | (simp only [lens]; omega) | (simp only [Bool.cond_decide]; omega) | (simp only [nadd_eq]; omega)), trivial⟩ ?_
          refine awp_tail 11 [4, 6, 9, 10, 46, 47, 48, 62, 63] [110, 125, 5009] [(0 < 1), ((0 : Int) ≤ ((i : Nat) : Int)), (((i : Nat) : Int) < ((t.length : Nat) : Int)), (i < L.length), ((0 : Int) ≤ (List.getD q i 0)), ((List.getD q i 0) < (((List.length (List.getD L i [])) : Nat) : Int)), ((Int.toNat (List.getD q i 0)) < (List.length (List.getD L i [])))] ⟨94, [(4, .one (.int .i64 s)), (6, .one (.rw 125 0 t.length)), (9, .one (.rw 5009 0 ps.length)), (10, .one (.ptr 110 0 0)), (46, .one (.ro (.ints .i64 q))), (47, .one (.int .i64 ((q.length : Nat) : Int))), (48, .one (.int .i64 ((i : Nat) : Int))), (62, .one (.int .i64 (min (amtTo L q s i) (List.getD (List.getD L i []) (Int.toNat (List.getD q i 0)) 0)))), (63, .one (.ptr 110 0 0))], [(110, .box 1 2 [(.int .i64 (amtTo L q s i)), (.ro (.ints .i64 q))]), (125, .mat 125 L), (5009, .recs (.pieces ps))]⟩ (by kernel_rfl) (by kernel_rfl) hT (by kernel_rfl) ⟨(by decide), (by first | omega | (simp only [lens]; omega) | (simp only [Bool.cond_decide]; omega) | (simp only [nadd_eq]; omega)), (by first | omega | (simp only [lens]; omega) | (simp only [Bool.cond_decide]; omega) | (simp only [nadd_eq]; omega)), (by first | omega | (simp only [lens]; omega) | (simp only [Bool.cond_decide]; omega) | (simp only [nadd_eq]; omega)), (by first | omega | (simp only [lens]; omega) | (simp only [Bool.cond_decide]; omega) | (simp only [nadd_eq]; omega)), (by first | omega | (simp only [lens]; omega) | (simp only [Bool.cond_decide]; omega) | (simp only [nadd_eq]; omega)), (by first | omega | (simp only [lens]; omega) | (simp only [Bool.cond_decide]; omega) | (simp only [nadd_eq]; omega)), trivial⟩ ?_
          refine aops_run 1 [4, 6, 9, 10, 46, 47, 48] [110, 125, 5009] [(0 < 1)] ⟨94, [(4, .one (.int .i64 s)), (6, .one (.rw 125 0 t.length)), (9, .one (.rw 5009 0 ps.length)), (10, .one (.ptr 110 0 0)), (46, .one (.ro (.ints .i64 q))), (47, .one (.int .i64 ((q.length : Nat) : Int))), (48, .one (.int .i64 ((i : Nat) : Int)))], [(110, .box 1 2 [(.int .i64 (min (amtTo L q s i) (List.getD (List.getD L i []) (Int.toNat (List.getD q i 0)) 0))), (.ro (.ints .i64 q))]), (125, .mat 125 L), (5009, .recs (.pieces ps))]⟩ hT (by kernel_rfl) (by kernel_rfl) ⟨(by decide), trivial⟩ ?_
          refine aops_end (by kernel_rfl) ?_
          refine awp_run [4, 6, 9, 10, 46, 47, 48] [110, 125, 5009] [(-9223372036854775808 ≤ (((i + 1) : Nat) : Int) ∧ (((i + 1) : Nat) : Int) ≤ 9223372036854775807)] ⟨94, [(4, .one (.int .i64 s)), (6, .one (.rw 125 0 t.length)), (9, .one (.rw 5009 0 ps.length)), (10, .one (.ptr 110 0 0)), (46, .one (.ro (.ints .i64 q))), (47, .one (.int .i64 ((q.length : Nat) : Int))), (48, .one (.int .i64 (((i + 1) : Nat) : Int)))], [(110, .box 1 2 [(.int .i64 (min (amtTo L q s i) (List.getD (List.getD L i []) (Int.toNat (List.getD q i 0)) 0))), (.ro (.ints .i64 q))]), (125, .mat 125 L), (5009, .recs (.pieces ps))]⟩ hT (by kernel_rfl) ⟨(by first | omega | (simp only [lens]; omega) | (simp only [Bool.cond_decide]; omega) | (simp only [nadd_eq]; omega)), trivial⟩ ?_
          refine loop_end _ ?_ ⟨(i + 1), ⟨(by omega), rfl⟩, (by kernel_rfl)⟩
          omega
        · -- no 14
          try simp only [bs] at c14
          refine awp_exit ?_
          refine awp_seq ?_
          rw [show (amtTo L q s i) = aA from (by rw [show i = t.length by omega]; exact haA)]
          refine awp_run_seq [4, 6, 9, 10, 66, 67, 68] [110, 125, 5009] [(0 < 1)] ⟨94, [(4, .one (.int .i64 s)), (6, .one (.rw 125 0 t.length)), (9, .one (.rw 5009 0 ps.length)), (10, .one (.ptr 110 0 0)), (66, .one (.ro (.ints .i64 q))), (67, .one (.int .i64 ((q.length : Nat) : Int))), (68, .one (.int .i64 0))], [(110, .box 1 2 [(.int .i64 aA), (.ro (.ints .i64 q))]), (125, .mat 125 L), (5009, .recs (.pieces ps))]⟩ hT (by kernel_rfl) ⟨(by decide), trivial⟩ ?_
          refine awp_block ?_
          refine awp_loop (I := fun κ σ => ∃ (i : Nat), ((i ≤ q.length) ∧ q.length - i = κ) ∧ σ = ⟨94, [(4, .one (.int .i64 s)), (6, .one (.rw 125 0 t.length)), (9, .one (.rw 5009 0 ps.length)), (10, .one (.ptr 110 0 0)), (66, .one (.ro (.ints .i64 q))), (67, .one (.int .i64 ((q.length : Nat) : Int))), (68, .one (.int .i64 ((i : Nat) : Int)))], [(110, .box 1 2 [(.int .i64 aA), (.ro (.ints .i64 q))]), (125, .mat 125 (subTo L q aA i)), (5009, .recs (.pieces ps))]⟩) _ ⟨0, ⟨(by omega), rfl⟩, (by kernel_rfl)⟩ ?_
          rintro κ _ ⟨i, ⟨hi, rfl⟩, rfl⟩
          refine awp_run_seq [4, 6, 9, 10, 66, 67, 68, 69] [110, 125, 5009] [] ⟨94, [(4, .one (.int .i64 s)), (6, .one (.rw 125 0 t.length)), (9, .one (.rw 5009 0 ps.length)), (10, .one (.ptr 110 0 0)), (66, .one (.ro (.ints .i64 q))), (67, .one (.int .i64 ((q.length : Nat) : Int))), (68, .one (.int .i64 ((i : Nat) : Int))), (69, .one (.bool (decide (((i : Nat) : Int) < ((q.length : Nat) : Int)))))], [(110, .box 1 2 [(.int .i64 aA), (.ro (.ints .i64 q))]), (125, .mat 125 (subTo L q aA i)), (5009, .recs (.pieces ps))]⟩ hT (by kernel_rfl) trivial ?_
          refine awp_seq ?_
          refine awp_cond (b := (decide (((i : Nat) : Int) < ((q.length : Nat) : Int)))) (by kernel_rfl) (fun c19 => ?_) (fun c19 => ?_)
          · -- yes 19
            try simp only [bs] at c19
            have hin : i < t.length := by omega
            have hqi := hfull.at_ hin
            have hs4 := sub_sq hDS.sq q aA i
            have hrow := hs4.row i hin
            have hl4 := hs4.len
            have hv4 := sub_at hDS.sq hfull aA (i := i) (by omega) i (List.getD q i 0).toNat
            rw [if_neg (by omega)] at hv4
            have hv5 := hDS.le hin (j := (List.getD q i 0).toNat) (by omega)
            have hv6 := hDS.nn i (List.getD q i 0).toNat hin (by omega)
            unfold at2 at hv4 hv5 hv6
            refine awp_skip ?_
            refine awp_seq ?_
            refine awp_block ?_
            refine awp_run_seq [4, 6, 9, 10, 13, 14, 66, 67, 68] [110, 125, 5009] [((0 : Int) ≤ ((i : Nat) : Int)), (((i : Nat) : Int) < ((q.length : Nat) : Int))] ⟨94, [(4, .one (.int .i64 s)), (6, .one (.rw 125 0 t.length)), (9, .one (.rw 5009 0 ps.length)), (10, .one (.ptr 110 0 0)), (13, .one (.int .i64 ((i : Nat) : Int))), (14, .one (.int .i64 (List.getD q i 0))), (66, .one (.ro (.ints .i64 q))), (67, .one (.int .i64 ((q.length : Nat) : Int))), (68, .one (.int .i64 ((i : Nat) : Int)))], [(110, .box 1 2 [(.int .i64 aA), (.ro (.ints .i64 q))]), (125, .mat 125 (subTo L q aA i)), (5009, .recs (.pieces ps))]⟩ hT (by kernel_rfl) ⟨(by first | omega | (simp only [lens]; omega) | (simp only [Bool.cond_decide]; omega) | (simp only [nadd_eq]; omega)), (by first | omega | (simp only [lens]; omega) | (simp only [Bool.cond_decide]; omega) | (simp only [nadd_eq]; omega)), trivial⟩ ?_
            refine awp_tail 11 [4, 6, 9, 10, 66, 67, 68, 82, 83] [110, 125, 5009] [((0 : Int) ≤ ((i : Nat) : Int)), (((i : Nat) : Int) < ((t.length : Nat) : Int)), (i < (List.length (subTo L q aA i))), ((0 : Int) ≤ (List.getD q i 0)), ((List.getD q i 0) < (((List.length (List.getD (subTo L q aA i) i [])) : Nat) : Int)), ((Int.toNat (List.getD q i 0)) < (List.length (List.getD (subTo L q aA i) i []))), (0 < 1), (-9223372036854775808 ≤ ((List.getD (List.getD (subTo L q aA i) i []) (Int.toNat (List.getD q i 0)) 0) - aA) ∧ ((List.getD (List.getD (subTo L q aA i) i []) (Int.toNat (List.getD q i 0)) 0) - aA) ≤ 9223372036854775807), ((0 : Int) ≤ (List.getD q i 0)), ((List.getD q i 0) < (((List.length (List.getD (subTo L q aA i) i [])) : Nat) : Int))] ⟨94, [(4, .one (.int .i64 s)), (6, .one (.rw 125 0 t.length)), (9, .one (.rw 5009 0 ps.length)), (10, .one (.ptr 110 0 0)), (66, .one (.ro (.ints .i64 q))), (67, .one (.int .i64 ((q.length : Nat) : Int))), (68, .one (.int .i64 ((i : Nat) : Int))), (82, .one (.int .i64 ((List.getD (List.getD (subTo L q aA i) i []) (Int.toNat (List.getD q i 0)) 0) - aA))), (83, .one (.mptr 125 i (Int.toNat (List.getD q i 0))))], [(110, .box 1 2 [(.int .i64 aA), (.ro (.ints .i64 q))]), (125, .mat 125 (subTo L q aA i)), (5009, .recs (.pieces ps))]⟩ (by kernel_rfl) (by kernel_rfl) hT (by kernel_rfl) ⟨(by first | omega | (simp only [lens]; omega) | (simp only [Bool.cond_decide]; omega) | (simp only [nadd_eq]; omega)), (by first | omega | (simp only [lens]; omega) | (simp only [Bool.cond_decide]; omega) | (simp only [nadd_eq]; omega)), (by first | omega | (simp only [lens]; omega) | (simp only [Bool.cond_decide]; omega) | (simp only [nadd_eq]; omega)), (by first | omega | (simp only [lens]; omega) | (simp only [Bool.cond_decide]; omega) | (simp only [nadd_eq]; omega)), (by first | omega | (simp only [lens]; omega) | (simp only [Bool.cond_decide]; omega) | (simp only [nadd_eq]; omega)), (by first | omega | (simp only [lens]; omega) | (simp only [Bool.cond_decide]; omega) | (simp only [nadd_eq]; omega)), (by decide), (by first | omega | (simp only [lens]; omega) | (simp only [Bool.cond_decide]; omega) | (simp only [nadd_eq]; omega)), (by first | omega | (simp only [lens]; omega) | (simp only [Bool.cond_decide]; omega) | (simp only [nadd_eq]; omega)), (by first | omega | (simp only [lens]; omega) | (simp only [Bool.cond_decide]; omega) | (simp only [nadd_eq]; omega)), trivial⟩ ?_
            refine aops_run 1 [4, 6, 9, 10, 66, 67, 68] [110, 125, 5009] [((Int.toNat (List.getD q i 0)) < (List.length (List.getD (subTo L q aA i) i [])))] ⟨94, [(4, .one (.int .i64 s)), (6, .one (.rw 125 0 t.length)), (9, .one (.rw 5009 0 ps.length)), (10, .one (.ptr 110 0 0)), (66, .one (.ro (.ints .i64 q))), (67, .one (.int .i64 ((q.length : Nat) : Int))), (68, .one (.int .i64 ((i : Nat) : Int)))], [(110, .box 1 2 [(.int .i64 aA), (.ro (.ints .i64 q))]), (125, .mat 125 (List.set (subTo L q aA i) i (List.set (List.getD (subTo L q aA i) i []) (Int.toNat (List.getD q i 0)) ((List.getD (List.getD (subTo L q aA i) i []) (Int.toNat (List.getD q i 0)) 0) - aA)))), (5009, .recs (.pieces ps))]⟩ hT (by kernel_rfl) (by kernel_rfl) ⟨(by first | omega | (simp only [lens]; omega) | (simp only [Bool.cond_decide]; omega) | (simp only [nadd_eq]; omega)), trivial⟩ ?_
            refine aops_end (by kernel_rfl) ?_
            refine awp_run [4, 6, 9, 10, 66, 67, 68] [110, 125, 5009] [(-9223372036854775808 ≤ (((i + 1) : Nat) : Int) ∧ (((i + 1) : Nat) : Int) ≤ 9223372036854775807)] ⟨94, [(4, .one (.int .i64 s)), (6, .one (.rw 125 0 t.length)), (9, .one (.rw 5009 0 ps.length)), (10, .one (.ptr 110 0 0)), (66, .one (.ro (.ints .i64 q))), (67, .one (.int .i64 ((q.length : Nat) : Int))), (68, .one (.int .i64 (((i + 1) : Nat) : Int)))], [(110, .box 1 2 [(.int .i64 aA), (.ro (.ints .i64 q))]), (125, .mat 125 (List.set (subTo L q aA i) i (List.set (List.getD (subTo L q aA i) i []) (Int.toNat (List.getD q i 0)) ((List.getD (List.getD (subTo L q aA i) i []) (Int.toNat (List.getD q i 0)) 0) - aA)))), (5009, .recs (.pieces ps))]⟩ hT (by kernel_rfl) ⟨(by first | omega | (simp only [lens]; omega) | (simp only [Bool.cond_decide]; omega) | (simp only [nadd_eq]; omega)), trivial⟩ ?_
            refine loop_end _ ?_ ⟨(i + 1), ⟨(by omega), rfl⟩, (by kernel_rfl)⟩
            omega
          · -- no 19
            try simp only [bs] at c19
            refine awp_exit ?_
            rw [show (subTo L q aA i) = (subTo L q aA t.length) from (by rw [show i = t.length by omega])]
            refine awp_run_seq [4, 6, 9, 10] [110, 125, 5009] [(0 < 1), (-9223372036854775808 ≤ (s - aA) ∧ (s - aA) ≤ 9223372036854775807)] ⟨94, [(4, .one (.int .i64 (s - aA))), (6, .one (.rw 125 0 t.length)), (9, .one (.rw 5009 0 ps.length)), (10, .one (.ptr 110 0 0))], [(110, .box 1 2 [(.int .i64 aA), (.ro (.ints .i64 q))]), (125, .mat 125 (subTo L q aA t.length)), (5009, .recs (.pieces ps))]⟩ hT (by kernel_rfl) ⟨(by decide), (by first | omega | (simp only [lens]; omega) | (simp only [Bool.cond_decide]; omega) | (simp only [nadd_eq]; omega)), trivial⟩ ?_
            refine awp_run [4, 6, 9] [125, 5009] [(0 < 1), (ps.length = ps.length), ((ps.length + 1) * 32 ≤ 140737488355328), ((ps.length + 1) ≤ 9223372036854775807)] ⟨94, [(4, .one (.int .i64 (s - aA))), (6, .one (.rw 125 0 t.length)), (9, .one (.rw 5009 0 (ps.length + 1)))], [(125, .mat 125 (subTo L q aA t.length)), (5009, .recs (.pieces (ps ++ [(aA, q)])))]⟩ hT (by kernel_rfl) ⟨(by decide), (by first | omega | (simp only [lens]; omega) | (simp only [Bool.cond_decide]; omega) | (simp only [nadd_eq]; omega)), (by first | omega | (simp only [lens]; omega) | (simp only [Bool.cond_decide]; omega) | (simp only [nadd_eq]; omega)), (by first | omega | (simp only [lens]; omega) | (simp only [Bool.cond_decide]; omega) | (simp only [nadd_eq]; omega)), trivial⟩ ?_
            refine loop_end _ ?_ ⟨(subTo L q aA t.length), (s - aA), (ps ++ [(aA, q)]), ⟨(by exact hsub), (by omega), (by simp only [lens]; omega), (by rw [List.append_assoc]; exact hps), rfl⟩, (by first | (simp only [lens]; done) | (simp only [Nat.zero_add]; done) | simp only [lens, Nat.zero_add])⟩
            omega
      · -- no 11
        try simp only [bs] at c11
        have hfin : ps = (pcsOf t.length (Int.toNat (sumV t)) t (sumV t)) := by rw [pcs_stop (by omega), List.append_nil] at hps; exact hps
        refine awp_exit ?_
        refine awp_weak (awk_seal 5009 (s' := ⟨94, [(4, .one (.int .i64 s)), (6, .one (.rw 125 0 t.length)), (9, .one (.rs (.pieces (List.take ps.length ps)))), (40, .one (.bool (decide ((0 : Int) < s))))], [(125, .mat 125 L)]⟩) (by kernel_rfl)) ?_
        rw [show (List.take ps.length ps) = ps from List.take_of_length_le (by first | omega | simp)]
        refine awp_run_seq [2, 3] [] [] ⟨94, [(2, .one (.rs (.pieces ps))), (3, .one (.int .i64 0))], []⟩ hT (by kernel_rfl) trivial ?_
        refine awp_ret ?_
        refine kRet.ret _ [] [] (.tup [(false, [(.rs (.pieces ps))]), (false, [(.int .i64 0)])]) [] (by kernel_rfl) trivial ?_
        exact ⟨by first | rw [show (okL (sumE t) (pcsOf t.length (Int.toNat (sumV t)) t (sumV t))) = ps from Eq.symm (by rw [okL_ok _ hS]; exact hfin), show (sumE t) = 0 from Eq.symm (by exact hS.symm)] | rw [show (okL (sumE t) (pcsOf t.length (Int.toNat (sumV t)) t (sumV t))) = ps from Eq.symm (by rw [okL_ok _ hS]; exact hfin)] | rw [show (sumE t) = 0 from Eq.symm (by exact hS.symm)], rfl⟩

end Go.Ab
