/- Of graphs: turned round, counted, with an arc left out: the plain laws. -/
import Derived.Test.YtoghkabjfpolbaaPlGraph
namespace Go.Ab
def turnA (a : Arc) : Arc := ⟨a.dst, a.src, a.cap⟩
/-- How often each number comes. -/
def bump (f : Arc → Int) (n : Int) (es : List Arc) : List Int := es.foldl (fun l a => l.set (f a).toNat (l.getD (f a).toNat 0 + 1)) (List.replicate n.toNat 0)
theorem bump_step (f : Arc → Int) (n : Int) (es : List Arc) (i : Nat) (hi : i < es.length) : bump f n (es.take (i + 1)) = (bump f n (es.take i)).set (f (es.getD i default)).toNat ((bump f n (es.take i)).getD (f (es.getD i default)).toNat 0 + 1) := by
  unfold bump
  rw [take_getD es default i hi, List.foldl_append]; rfl
theorem bump_all (f : Arc → Int) (n : Int) (es : List Arc) : (bump f n es).length = n.toNat ∧ ∀ k, 0 ≤ (bump f n es).getD k 0 ∧ (bump f n es).getD k 0 ≤ es.length := by
  have key : ∀ (es : List Arc) (l : List Int) (b : Nat), (l.length = n.toNat ∧ ∀ k, 0 ≤ l.getD k 0 ∧ l.getD k 0 ≤ b) →
      (es.foldl (fun l a => l.set (f a).toNat (l.getD (f a).toNat 0 + 1)) l).length = n.toNat ∧ ∀ k, 0 ≤ (es.foldl (fun l a => l.set (f a).toNat (l.getD (f a).toNat 0 + 1)) l).getD k 0 ∧ (es.foldl (fun l a => l.set (f a).toNat (l.getD (f a).toNat 0 + 1)) l).getD k 0 ≤ (b + es.length : Nat) := by
    intro es
    induction es with
    | nil => intro l b h; simpa using h
    | cons a r ih =>
      intro l b h
      have := ih (l.set (f a).toNat (l.getD (f a).toNat 0 + 1)) (b + 1) ⟨by simp [h.1], fun k => ?_⟩
      · simp only [List.foldl_cons, List.length_cons]
        refine ⟨this.1, fun k => ?_⟩
        have h2 := this.2 k
        constructor
        · exact h2.1
        · refine Int.le_trans h2.2 ?_
          omega
      · by_cases hk : (f a).toNat = k
        · subst hk
          by_cases hl : (f a).toNat < l.length
          · rw [getD_set_self _ _ _ _ hl]
            have := h.2 (f a).toNat
            omega
          · rw [getD_ge _ _ _ (by simpa using Nat.le_of_not_lt hl)]
            omega
        · rw [getD_set_ne _ _ _ _ _ hk]
          have := h.2 k
          omega
  have := key es (List.replicate n.toNat 0) 0 ⟨by simp, fun k => by
    by_cases hk : k < n.toNat
    · rw [List.getD_eq_getElem?_getD, List.getElem?_replicate, if_pos hk]; simp
    · rw [getD_ge _ _ _ (by simpa using Nat.le_of_not_lt hk)]; simp⟩
  rw [Nat.zero_add] at this
  exact this
def dropErr (n : Int) (es : List Arc) (k : Int) : Int := if graphErr n es (-10000) ≠ 0 then graphErr n es (-10000) else if k < 0 ∨ (es.length : Int) ≤ k then 5 else 0
def without (es : List Arc) (k : Int) : List Arc := es.take k.toNat ++ es.drop (k.toNat + 1)
end Go.Ab
