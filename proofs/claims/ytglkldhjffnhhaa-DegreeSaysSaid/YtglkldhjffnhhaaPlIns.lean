/- Of sorting by insertion: the plain laws. -/
import Derived.Test.YtglkldhjffnhhaaPlA
namespace Go.Ab
theorem swap_perm : ∀ {y : List Int} {j : Nat}, j + 1 < y.length → ((y.set (j + 1) (y.getD j 0)).set j (y.getD (j + 1) 0)).Perm y
  | a :: b :: r, 0, _ => by simpa using List.Perm.swap a b r
  | a :: r, j + 1, h => by
    have := swap_perm (y := r) (j := j) (by simpa using h)
    simpa using List.Perm.cons a this
  | [], _, h => by simp at h
  | [_], 0, h => by simp at h
/-- An order, as a test of two: negative, if the first comes ahead. -/
structure CmpOk (c : Int → Int → Int) : Prop where
  asym : ∀ x y, c x y < 0 → ¬ c y x < 0
  trans : ∀ x y z, ¬ c y x < 0 → ¬ c z y < 0 → ¬ c z x < 0
def SortTo (c : Int → Int → Int) (y : List Int) (i j : Nat) : Prop := ∀ p q : Nat, p < q → q < i → q ≠ j → ¬ c (y.getD q 0) (y.getD p 0) < 0
theorem sortTo_one (c : Int → Int → Int) (y : List Int) (j : Nat) : SortTo c y 1 j := fun p q h1 h2 => by omega
theorem sortTo_in {c : Int → Int → Int} {y : List Int} {i : Nat} (h : SortTo c y i i) : SortTo c y (i + 1) i := fun p q h1 h2 h3 => h p q h1 (by omega) (by omega)
theorem sortTo_zero {c : Int → Int → Int} {y : List Int} {i : Nat} (h : SortTo c y (i + 1) 0) : SortTo c y (i + 1) (i + 1) := fun p q h1 h2 _ => h p q h1 h2 (by omega)
theorem sortTo_stop {c : Int → Int → Int} (hc : CmpOk c) {y : List Int} {i j : Nat} (h : SortTo c y (i + 1) (j + 1)) (hj : j + 1 ≤ i) (hn : ¬ c (y.getD (j + 1) 0) (y.getD j 0) < 0) : SortTo c y (i + 1) (i + 1) := by
  intro p q h1 h2 _
  by_cases e : q = j + 1
  · subst e
    by_cases e2 : p = j
    · subst e2; exact hn
    · exact hc.trans _ _ _ (h p j (by omega) (by omega) (by omega)) hn
  · exact h p q h1 h2 e
theorem sortTo_swap {c : Int → Int → Int} (hc : CmpOk c) {y : List Int} {i j : Nat} (h : SortTo c y (i + 1) (j + 1)) (hj : j + 1 ≤ i) (hl : i < y.length) (hy : c (y.getD (j + 1) 0) (y.getD j 0) < 0) :
    SortTo c ((y.set (j + 1) (y.getD j 0)).set j (y.getD (j + 1) 0)) (i + 1) j := by
  have hat : ∀ k : Nat, ((y.set (j + 1) (y.getD j 0)).set j (y.getD (j + 1) 0)).getD k 0 = if k = j then y.getD (j + 1) 0 else if k = j + 1 then y.getD j 0 else y.getD k 0 := by
    intro k
    by_cases e : k = j
    · rw [if_pos e, e, getD_set_self _ _ _ _ (by rw [List.length_set]; omega)]
    · rw [if_neg e, getD_set_ne _ _ _ _ _ (Ne.symm e)]
      by_cases e2 : k = j + 1
      · rw [if_pos e2, e2, getD_set_self _ _ _ _ (by omega)]
      · rw [if_neg e2, getD_set_ne _ _ _ _ _ (Ne.symm e2)]
  intro p q h1 h2 h3
  rw [hat p, hat q, if_neg h3]
  by_cases e : q = j + 1
  · rw [if_pos e]
    by_cases e2 : p = j
    · rw [if_pos e2]; exact hc.asym _ _ hy
    · rw [if_neg e2, if_neg (by omega)]; exact h p j (by omega) (by omega) (by omega)
  · rw [if_neg e]
    by_cases e2 : p = j
    · rw [if_pos e2]; exact h (j + 1) q (by omega) h2 e
    · rw [if_neg e2]
      by_cases e3 : p = j + 1
      · rw [if_pos e3]; exact h j q (by omega) h2 e
      · rw [if_neg e3]; exact h p q h1 h2 e
theorem ins_step {c : Int → Int → Int} (hc : CmpOk c) {d y : List Int} {i j j1 : Nat} (hj : j1 + 1 = j) (hy : y.Perm d ∧ SortTo c y (i + 1) j) (hji : j ≤ i) (hl : i < y.length) (hcy : c (y.getD j 0) (y.getD j1 0) < 0) :
    ((y.set j (y.getD j1 0)).set j1 (y.getD j 0)).Perm d ∧ SortTo c ((y.set j (y.getD j1 0)).set j1 (y.getD j 0)) (i + 1) (j - 1) := by
  subst hj
  exact ⟨(swap_perm (by omega)).trans hy.1, sortTo_swap hc hy.2 hji hl hcy⟩
theorem ins_stop {c : Int → Int → Int} (hc : CmpOk c) {y : List Int} {i j j1 : Nat} (hj : j = 0 ∨ j1 + 1 = j) (hy : SortTo c y (i + 1) j) (hji : j ≤ i) (hcy : j = 0 ∨ ¬ c (y.getD j 0) (y.getD j1 0) < 0) : SortTo c y (i + 1) (i + 1) := by
  rcases Nat.eq_zero_or_pos j with h | h
  · subst h; exact sortTo_zero hy
  · rcases hj with e | e
    · omega
    subst e
    exact sortTo_stop hc hy hji (hcy.resolve_left (by omega))
theorem sortTo_all {c : Int → Int → Int} {y : List Int} {i : Nat} (h : SortTo c y i i) (hi : y.length ≤ i) : y.Pairwise (fun a b => ¬ c b a < 0) := by
  refine List.pairwise_iff_getElem.2 fun p q hp hq hpq => ?_
  have := h p q hpq (by omega) (by omega)
  simpa [List.getD_eq_getElem?_getD, List.getElem?_eq_getElem hp, List.getElem?_eq_getElem hq] using this
end Go.Ab
