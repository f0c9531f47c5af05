/- Of two sides: the plain laws. -/
import Derived.Test.YtakfbagokponeaaPlB
namespace Go.Ab
def flipA (a : Arc) : Arc := ⟨a.dst, a.src, 0⟩
def twice : List Arc → List Arc
  | [] => []
  | a :: r => a :: flipA a :: twice r
def rootOf (n : Int) (es : List Arc) (v : Nat) : Int := (joinedOf n es).getD v 0
theorem root_at {n : Int} {es : List Arc} (h12 : n ≤ 12) (hA : InR n es) {v : Nat} (hv : (v : Int) < n) :
    0 ≤ rootOf n es v ∧ rootOf n es v ≤ v ∧ (∃ k, wk (bothA es) k (rootOf n es v) v = true) ∧ ∀ (k : Nat) (u : Int), wk (bothA es) k v u = true → rootOf n es v ≤ u := by
  have hat : ∀ j : Nat, j < n.toNat → ((waysOf n (bothA es)).getD v []).getD j 0 = dist (bothA es) v j := fun j hj => waysOf_at hv (by omega)
  have hr : rootOf n es v = idxOf finB ((waysOf n (bothA es)).getD v []) := by
    unfold rootOf joinedOf
    rw [getD_lt ((List.range n.toNat).map _) 0 v (by simp; omega)]
    simp
  have key : ∀ u : Nat, u < n.toNat → (∃ k, wk (bothA es) k v u = true) → ∃ w : Nat, w ≤ u ∧ rootOf n es v = w ∧ (∃ k, wk (bothA es) k v w = true) ∧ ∀ j : Nat, j < w → ∀ k, wk (bothA es) k v j = false := by
    intro u
    induction u using Nat.strongRecOn with
    | ind u ih =>
      intro hu hw
      by_cases hc : ∃ j : Nat, j < u ∧ ∃ k, wk (bothA es) k v j = true
      · obtain ⟨j, hj, hwj⟩ := hc
        obtain ⟨w, h1, h2, h3, h4⟩ := ih j hj (by omega) hwj
        exact ⟨w, by omega, h2, h3, h4⟩
      · have hno : ∀ j : Nat, j < u → ∀ k, wk (bothA es) k v j = false := fun j hj k => by
          cases e : wk (bothA es) k v j
          · rfl
          · exact absurd ⟨j, hj, k, e⟩ hc
        refine ⟨u, Nat.le_refl _, ?_, hw, hno⟩
        rw [hr]
        refine idxOf_at (d := 0) (fun j hj => ?_) (by rw [row_len hv]; exact hu) ?_
        · rw [hat j (by omega)]
          cases e : finB (dist (bothA es) v j)
          · rfl
          · obtain ⟨k, hk⟩ := (finB_dist h12 hA.both).1 e
            rw [hno j hj k] at hk; cases hk
        · rw [hat u hu, finB_dist h12 hA.both]; exact hw
  obtain ⟨w, h1, h2, ⟨k, h3⟩, h4⟩ := key v (by omega) ⟨0, wk_zero.2 rfl⟩
  rw [h2]
  refine ⟨by omega, by omega, ⟨k, wk_rev h3⟩, fun k u hu => ?_⟩
  have hu2 := wk_dst hA.both (by omega) hv hu
  rcases Int.lt_or_le u w with hlt | hge
  · have := h4 u.toNat (by omega) k
    rw [Int.toNat_of_nonneg hu2.1, hu] at this; cases this
  · exact hge
theorem root_same {n : Int} {es : List Arc} (h12 : n ≤ 12) (hA : InR n es) {v w : Nat} (hv : (v : Int) < n) (hw : (w : Int) < n) {k : Nat} (h : wk (bothA es) k v w = true) : rootOf n es v = rootOf n es w := by
  obtain ⟨a1, a2, ⟨ka, a3⟩, a4⟩ := root_at h12 hA hv
  obtain ⟨b1, b2, ⟨kb, b3⟩, b4⟩ := root_at h12 hA hw
  have h1 := a4 _ _ (wk_cat (wk_rev b3) h)
  have h2 := b4 _ _ (wk_cat (wk_rev a3) (wk_rev h))
  omega
structure Sided (n : Int) (es : List Arc) (c : List Int) : Prop where
  len : c.length = n.toNat
  root : ∀ v : Nat, (v : Int) < n → c.getD (rootOf n es v).toNat 0 = 0
  at_ : ∀ v : Nat, (v : Int) < n → ∃ k : Nat, wk (bothA es) k (rootOf n es v) v = true ∧ c.getD v 0 = ((k % 2 : Nat) : Int)
structure Spread (n : Int) (es : List Arc) (s : List Int) : Prop where
  len : s.length = n.toNat
  root : ∀ v : Nat, (v : Int) < n → s.getD (rootOf n es v).toNat 0 = 0
  at_ : ∀ v : Nat, (v : Int) < n → s.getD v 0 = -1 ∨ ∃ k : Nat, wk (bothA es) k (rootOf n es v) v = true ∧ s.getD v 0 = ((k % 2 : Nat) : Int)
structure Round2 (es : List Arc) (s0 s : List Int) (i : Nat) : Prop where
  keep : ∀ v, 0 ≤ s0.getD v 0 → 0 ≤ s.getD v 0
  arcs : ∀ j, j < i → 0 ≤ s0.getD ((twice es).getD j default).src.toNat 0 → 0 ≤ s.getD ((twice es).getD j default).dst.toNat 0
end Go.Ab
