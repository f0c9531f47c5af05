/- Of odd parts outside of a set that is a number: the plain laws. -/
import Derived.Test.YtglkldhjffnhhaaPlMate5
namespace Go.Ab
def outB (z : Int) (a : Arc) : Bool := !has z a.src.toNat && !has z a.dst.toNat
def keptZ (es : List Arc) (z : Int) : List Arc := es.filter (outB z)
def labZ (n : Int) (es : List Arc) (z : Int) (i : Nat) : Nat := (rootOf n (keptZ es z) i).toNat
def oddZ (n : Int) (es : List Arc) (z : Int) : Nat := oddL n.toNat (labZ n es z) (freeP n.toNat z)
def xZ (n : Int) (es : List Arc) (z : Int) : Int := n + ((many z 9 : Nat) : Int) - ((oddZ n es z : Nat) : Int)
theorem kept_inR {n : Int} {es : List Arc} (h : InR n es) (z : Int) : InR n (keptZ es z) := fun a ha => h a (List.mem_filter.1 ha).1
theorem kept_mem {es : List Arc} {z : Int} {a : Arc} : a ∈ keptZ es z ↔ a ∈ es ∧ has z a.src.toNat = false ∧ has z a.dst.toNat = false := by
  unfold keptZ outB; rw [List.mem_filter]; simp
theorem cn_wk {n : Int} {es : List Arc} {z : Int} (hA : InR n es) {u : Int} : ∀ (k : Nat) (v : Int), wk (bothA (keptZ es z)) k u v = true → Cn (prsOf es) (freeP n.toNat z) u.toNat v.toNat
  | 0, v, h => by rw [wk_zero] at h; subst h; exact Cn.refl _
  | k + 1, v, h => by
    obtain ⟨a, ha, h1, rfl⟩ := wk_snoc h
    have ih := cn_wk hA k a.src h1
    have key : ∀ b ∈ keptZ es z, prOf b ∈ prsOf es ∧ freeP n.toNat z (prOf b).1 = true ∧ freeP n.toNat z (prOf b).2 = true := fun b hb => by
      obtain ⟨q1, q2, q3⟩ := kept_mem.1 hb
      obtain ⟨b1, b2, b3, b4⟩ := hA b q1
      exact ⟨prs_mem q1, freeP_iff.2 ⟨by show b.src.toNat < _; omega, q2⟩, freeP_iff.2 ⟨by show b.dst.toNat < _; omega, q3⟩⟩
    rcases mem_both.1 ha with hb | ⟨b, hb, rfl⟩
    · obtain ⟨q1, q2, q3⟩ := key a hb
      exact Cn.step ih q1 q2 q3 (.inl ⟨rfl, rfl⟩)
    · obtain ⟨q1, q2, q3⟩ := key b hb
      exact Cn.step ih q1 q2 q3 (.inr ⟨rfl, rfl⟩)
theorem labQ {n : Int} {es : List Arc} (z : Int) (hA : InR n es) (h0 : 0 ≤ n) (h12 : n ≤ 12) : LabQ n.toNat (prsOf es) (freeP n.toNat z) (labZ n es z) := by
  have hK := kept_inR hA z
  refine ⟨fun i hi => ?_, fun e he h1 h2 => ?_, fun i j hi hj he => ?_⟩
  · have := root_at h12 hK (v := i) (by omega)
    unfold labZ; omega
  · obtain ⟨a, ha, rfl⟩ := List.mem_map.1 he
    obtain ⟨b1, b2, b3, b4⟩ := hA a ha
    have hk : a ∈ keptZ es z := kept_mem.2 ⟨ha, (freeP_iff.1 h1).2, (freeP_iff.1 h2).2⟩
    have e1 : ((a.src.toNat : Nat) : Int) = a.src := Int.toNat_of_nonneg b1
    have e2 : ((a.dst.toNat : Nat) : Int) = a.dst := Int.toNat_of_nonneg b3
    unfold labZ
    exact congrArg Int.toNat (root_same h12 hK (v := a.src.toNat) (w := a.dst.toNat) (by omega) (by omega) (k := 1) (by rw [e1, e2]; exact wk_one (mem_both.2 (.inl hk))))
  · have hi' := (freeP_iff.1 hi).1
    have hj' := (freeP_iff.1 hj).1
    obtain ⟨a1, a2, ⟨k1, a3⟩, _⟩ := root_at h12 hK (v := i) (by omega)
    obtain ⟨c1, c2, ⟨k2, c3⟩, _⟩ := root_at h12 hK (v := j) (by omega)
    unfold labZ at he
    have e : rootOf n (keptZ es z) i = rootOf n (keptZ es z) j := by omega
    rw [← e] at c3
    have := cn_wk hA _ _ (wk_cat c3 (wk_rev a3))
    rw [Int.toNat_natCast, Int.toNat_natCast] at this
    exact this
theorem cnt_free (z : Int) : ∀ (n m : Nat), m ≤ n → cntP m (freeP n z) + many z m = m
  | n, 0, _ => rfl
  | n, m + 1, h => by
    have ih := cnt_free z n m (by omega)
    unfold cntP at ih ⊢
    unfold sumN many freeP
    unfold freeP at ih
    rw [decide_eq_true (show m < n by omega)]
    cases has z m <;> simp at ih ⊢ <;> omega
theorem many_cut9 {z : Int} {n : Nat} (h : ∀ v, n ≤ v → has z v = false) : ∀ {m : Nat}, n ≤ m → many z m = many z n
  | 0, hm => by rw [show n = 0 by omega]
  | m + 1, hm => by
    by_cases e : n = m + 1
    · rw [e]
    · have := many_cut9 h (m := m) (by omega)
      rw [many, h m (by omega), this]; simp
theorem many_9 {z : Int} {n : Int} (h9 : n ≤ 9) (h0 : 0 ≤ z) (h1 : z < ((2 ^ n.toNat : Nat) : Int)) : many z 9 = many z n.toNat := many_cut9 (fun v hv => has_lt h0 h1 hv) (by omega)
theorem xZ_ge {n : Int} {es : List Arc} {z : Int} (hA : InR n es) (hn : 0 ≤ n) (h9 : n ≤ 9) (h0 : 0 ≤ z) (h1 : z < ((2 ^ n.toNat : Nat) : Int)) : 2 * nuF n es 0 ≤ xZ n es z := by
  have hL := labQ (es := es) z hA hn (by omega)
  obtain ⟨M, m1, m2⟩ := nu_ex (prsOf es) (freeP n.toNat 0)
  have h2 := tb_weak hL.lt (M := M) (p := freeP n.toNat 0) (q := freeP n.toNat z) m1 (fun v hv => freeP_iff.2 ⟨(freeP_iff.1 hv).1, has_zero v⟩) (fun v hv => (freeP_iff.1 hv).1) hL.arc
  have h3 := cnt_free z n.toNat n.toNat (Nat.le_refl _)
  have h4 := cnt_free 0 n.toNat n.toNat (Nat.le_refl _)
  have h5 := many_9 (z := z) h9 h0 h1
  unfold xZ oddZ nuF
  omega
def maskN (q : Nat → Bool) : Nat → Int
  | 0 => 0
  | n + 1 => if q n = true then ior (maskN q n) (1 * 2 ^ n) else maskN q n
theorem mask_0 (q : Nat → Bool) : ∀ n, 0 ≤ maskN q n
  | 0 => Int.le_refl _
  | n + 1 => by unfold maskN; split; exact ior0 _ _; exact mask_0 q n
theorem mask_has (q : Nat → Bool) : ∀ (n v : Nat), has (maskN q n) v = (decide (v < n) && q v)
  | 0, v => by unfold maskN; rw [has_zero]; simp
  | n + 1, v => by
    unfold maskN
    have ih := mask_has q n v
    split
    · rename_i hq
      rw [has_ior, has_pow, ih]
      by_cases e : n = v
      · subst e; rw [hq]; simp
      · rw [decide_eq_false e]
        by_cases h : v < n
        · rw [decide_eq_true h, decide_eq_true (show v < n + 1 by omega)]; simp
        · rw [decide_eq_false h, decide_eq_false (show ¬ v < n + 1 by omega)]; simp
    · rename_i hq
      rw [ih]
      by_cases e : n = v
      · subst e; rw [Bool.eq_false_iff.2 hq]; simp
      · by_cases h : v < n
        · rw [decide_eq_true h, decide_eq_true (show v < n + 1 by omega)]
        · rw [decide_eq_false h, decide_eq_false (show ¬ v < n + 1 by omega)]
theorem xZ_ex {n : Int} {es : List Arc} (hA : InR n es) (hn : 0 ≤ n) (h9 : n ≤ 9) : ∃ s : Nat, s < 2 ^ n.toNat ∧ 2 * nuF n es 0 = xZ n es (s : Int) := by
  obtain ⟨q, q1, q2⟩ := tb_strong (n := n.toNat) (es := prsOf es) _ (freeP n.toNat 0) rfl (fun v hv => (freeP_iff.1 hv).1)
  have hz0 := mask_0 (fun v => !q v) n.toNat
  have hz1 : maskN (fun v => !q v) n.toNat < ((2 ^ n.toNat : Nat) : Int) := lt_has hz0 fun v hv => by rw [mask_has, decide_eq_false (by omega)]; rfl
  generalize hz : maskN (fun v => !q v) n.toNat = z at *
  have hf : freeP n.toNat z = q := by
    funext v
    unfold freeP
    rw [← hz, mask_has]
    by_cases h : v < n.toNat
    · rw [decide_eq_true h]; simp
    · rw [decide_eq_false h]
      cases e : q v
      · rfl
      · exact absurd (freeP_iff.1 (q1 v e)).1 h
  have hL := labQ (es := es) z hA hn (by omega)
  rw [hf] at hL
  have h2 := q2 _ hL
  have h3 := cnt_free z n.toNat n.toNat (Nat.le_refl _)
  have h4 := cnt_free 0 n.toNat n.toNat (Nat.le_refl _)
  have h5 := many_9 (z := z) h9 hz0 hz1
  have h6 := xZ_ge hA hn h9 hz0 hz1
  have h7 : many 0 n.toNat = 0 := by
    have := many_cut9 (z := 0) (n := 0) (fun v _ => has_zero v) (m := n.toNat) (Nat.zero_le _)
    rw [this]; rfl
  rw [hf] at h3
  refine ⟨z.toNat, by omega, ?_⟩
  rw [Int.toNat_of_nonneg hz0]
  unfold xZ oddZ nuF at h6 ⊢
  rw [hf] at h6 ⊢
  omega
def barOf (n : Int) (es : List Arc) : Int := idxOf (fun (s : Int) => decide (2 * nuF n es 0 = xZ n es s)) ((List.range (2 ^ n.toNat)).map fun (s : Nat) => (s : Int))
theorem bar_at {n : Int} {es : List Arc} {s : Nat} (hs : s < 2 ^ n.toNat) (hno : ∀ j : Nat, j < s → 2 * nuF n es 0 ≠ xZ n es (j : Int)) (hy : 2 * nuF n es 0 = xZ n es (s : Int)) : barOf n es = s := by
  have hat : ∀ j : Nat, j < 2 ^ n.toNat → ((List.range (2 ^ n.toNat)).map fun (s : Nat) => (s : Int)).getD j 0 = (j : Int) := fun j hj => by
    rw [getD_lt _ _ _ (by simpa using hj)]; simp
  exact idxOf_at (d := 0) (fun j hj => by rw [hat j (by omega)]; exact decide_eq_false (hno j hj)) (by simpa using hs) (by rw [hat s hs]; exact decide_eq_true hy)
def BestB (n : Int) (es : List Arc) (i : Nat) (b at_ : Int) : Prop := (i = 0 ∧ b = -1 ∧ at_ = 0) ∨ (0 < i ∧ ∃ a : Nat, at_ = a ∧ a < i ∧ b = xZ n es (a : Int) ∧ (∀ j : Nat, j < i → b ≤ xZ n es (j : Int)) ∧ ∀ j : Nat, j < a → b < xZ n es (j : Int))
theorem BestB.start (n : Int) (es : List Arc) : BestB n es 0 (-1) 0 := .inl ⟨rfl, rfl, rfl⟩
theorem BestB.yes {n : Int} {es : List Arc} {i : Nat} {b at_ : Int} (h : BestB n es i b at_) (h0 : ∀ j : Nat, j < i → 0 ≤ xZ n es (j : Int)) (hc : b < 0 ∨ xZ n es (i : Int) < b) : BestB n es (i + 1) (xZ n es (i : Int)) (i : Int) := by
  refine .inr ⟨by omega, i, rfl, by omega, rfl, ?_, ?_⟩
  · intro j hj
    rcases h with ⟨q, _, _⟩ | ⟨_, a, _, ha, q2, q3, _⟩
    · obtain rfl : j = i := by omega
      exact Int.le_refl _
    · by_cases e : j = i
      · subst e; exact Int.le_refl _
      · have := q3 j (by omega)
        have := h0 a ha
        omega
  · intro j hj
    rcases h with ⟨q, _, _⟩ | ⟨_, a, _, ha, q2, q3, _⟩
    · omega
    · have := q3 j (by omega)
      have := h0 a ha
      omega
theorem BestB.no {n : Int} {es : List Arc} {i : Nat} {b at_ : Int} (h : BestB n es i b at_) (hc : ¬ (b < 0 ∨ xZ n es (i : Int) < b)) : BestB n es (i + 1) b at_ := by
  rcases h with ⟨_, q, _⟩ | ⟨_, a, q1, ha, q2, q3, q4⟩
  · omega
  · refine .inr ⟨by omega, a, q1, by omega, q2, fun j hj => ?_, q4⟩
    by_cases e : j = i
    · subst e; omega
    · exact q3 j (by omega)
theorem BestB.end_ {n : Int} {es : List Arc} {i : Nat} {b at_ : Int} (h : BestB n es i b at_) (hA : InR n es) (hn : 0 ≤ n) (h9 : n ≤ 9) (hi : i = 2 ^ n.toNat) : b = 2 * nuF n es 0 ∧ at_ = barOf n es := by
  obtain ⟨s, s1, s2⟩ := xZ_ex hA hn h9
  rcases h with ⟨q, _, _⟩ | ⟨_, a, q1, ha, q2, q3, q4⟩
  · omega
  · have h1 := q3 s (by omega)
    have h2 := xZ_ge hA hn h9 (z := (a : Int)) (by omega) (by omega)
    refine ⟨by omega, ?_⟩
    rw [bar_at (s := a) (by omega) (fun j hj => by have := q4 j hj; omega) (by omega)]
    exact q1
end Go.Ab
