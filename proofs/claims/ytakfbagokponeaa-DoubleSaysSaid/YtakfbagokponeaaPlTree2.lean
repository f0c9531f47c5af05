/- Of trees and their codes, part two: the start, what hangs together, the reference's masks. -/
import Derived.Test.YtakfbagokponeaaPlTree
import Derived.Test.YtakfbagokponeaaPlA
namespace Go.Ab
/-! ### The start -/
/-! ### What hangs together -/
/-! ### The greatest number of a list -/
def maxL : List Int → Int
  | [] => 0
  | x :: r => r.foldl max x
theorem maxL_snoc {l : List Int} {x : Int} (h : 0 < l.length) : maxL (l ++ [x]) = max (maxL l) x := by
  cases l with
  | nil => simp at h
  | cons a r => simp [maxL]
theorem maxL_step {l : List Int} {i : Nat} (h1 : 1 ≤ i) (hi : i < l.length) : maxL (l.take (i + 1)) = max (maxL (l.take i)) (l.getD i 0) := by
  rw [take_getD l 0 i hi, maxL_snoc (by rw [List.length_take]; omega)]
theorem maxL_one (l : List Int) : maxL (l.take 1) = l.getD 0 0 := by cases l <;> rfl
/-! ### The reference's masks -/
def adjT (es : List Arc) (v u : Nat) : Bool := es.any fun a => (decide (a.src = v) && decide (a.dst = u)) || (decide (a.dst = v) && decide (a.src = u))
theorem adj_snoc (a : Arc) (es : List Arc) (v u : Nat) : adjT (es ++ [a]) v u = (adjT es v u || ((decide (a.src = v) && decide (a.dst = u)) || (decide (a.dst = v) && decide (a.src = u)))) := by
  unfold adjT; rw [List.any_append]; simp only [List.any_cons, List.any_nil, Bool.or_false]
structure NearM (N : List Int) (es : List Arc) : Prop where
  len : N.length = 12
  rng : ∀ v : Nat, 0 ≤ N.getD v 0 ∧ N.getD v 0 ≤ 4095
  bit : ∀ v u : Nat, v < 12 → has (N.getD v 0) u = adjT es v u
theorem nm_ior {a b : Int} (ha : 0 ≤ a ∧ a ≤ 4095) (hb : 0 ≤ b ∧ b ≤ 4095) : 0 ≤ ior a b ∧ ior a b ≤ 4095 := by
  refine ⟨ior0 a b, ?_⟩
  have : ior a b < ((2 ^ 12 : Nat) : Int) := lt_has (ior0 a b) fun v hv => by
    rw [has_ior, has_lt (n := 12) ha.1 (by omega) hv, has_lt (n := 12) hb.1 (by omega) hv]; rfl
  omega
theorem nm_pow {k : Nat} (h : k < 12) : 0 ≤ (1 : Int) * 2 ^ k ∧ (1 : Int) * 2 ^ k ≤ 4095 := by
  have h2 : ∀ k : Nat, k < 12 → 0 ≤ (1 : Int) * 2 ^ k ∧ (1 : Int) * 2 ^ k ≤ 4095 := by decide
  exact h2 k h
theorem NearM.add {N : List Int} {es : List Arc} (h : NearM N es) {a : Arc} (h1 : 0 ≤ a.src) (h2 : a.src < a.dst) (h3 : a.dst < 12) :
    NearM ((N.set a.src.toNat (ior (N.getD a.src.toNat 0) (1 * 2 ^ a.dst.toNat))).set a.dst.toNat (ior ((N.set a.src.toNat (ior (N.getD a.src.toNat 0) (1 * 2 ^ a.dst.toNat))).getD a.dst.toNat 0) (1 * 2 ^ a.src.toNat))) (es ++ [a]) := by
  have hl := h.len
  have hat : ∀ v : Nat, ((N.set a.src.toNat (ior (N.getD a.src.toNat 0) (1 * 2 ^ a.dst.toNat))).set a.dst.toNat (ior ((N.set a.src.toNat (ior (N.getD a.src.toNat 0) (1 * 2 ^ a.dst.toNat))).getD a.dst.toNat 0) (1 * 2 ^ a.src.toNat))).getD v 0
      = if v = a.dst.toNat then ior (N.getD a.dst.toNat 0) (1 * 2 ^ a.src.toNat) else if v = a.src.toNat then ior (N.getD a.src.toNat 0) (1 * 2 ^ a.dst.toNat) else N.getD v 0 := fun v => by
    rw [getD_set_if _ _ _ _ (by rw [List.length_set]; omega), getD_set_if _ _ _ _ (by omega), getD_set_if _ _ _ _ (by omega), if_neg (show ¬ a.dst.toNat = a.src.toNat by omega)]
  refine ⟨by rw [List.length_set, List.length_set]; exact hl, fun v => ?_, fun v u hv => ?_⟩
  · rw [hat]
    split
    · exact nm_ior (h.rng _) (nm_pow (k := a.src.toNat) (by omega))
    · split
      · exact nm_ior (h.rng _) (nm_pow (k := a.dst.toNat) (by omega))
      · exact h.rng v
  · rw [hat, adj_snoc]
    split
    · rename_i e
      rw [has_ior, h.bit _ _ (by omega), has_pow, ← e]
      congr 1
      rw [Bool.eq_iff_iff]; simp only [Bool.or_eq_true, Bool.and_eq_true, decide_eq_true_eq]; omega
    · split
      · rename_i e
        rw [has_ior, h.bit _ _ (by omega), has_pow, ← e]
        congr 1
        rw [Bool.eq_iff_iff]; simp only [Bool.or_eq_true, Bool.and_eq_true, decide_eq_true_eq]; omega
      · rename_i e1 e2
        rw [h.bit _ _ hv]
        have : ((decide (a.src = (v : Int)) && decide (a.dst = (u : Int))) || (decide (a.dst = (v : Int)) && decide (a.src = (u : Int)))) = false := by
          rw [Bool.eq_false_iff]; simp only [ne_eq, Bool.or_eq_true, Bool.and_eq_true, decide_eq_true_eq]; omega
        rw [this, Bool.or_false]
/-! ### A mask of one bit -/
/-! ### A round of the reference -/
/-! ### Bounds -/
theorem occ_le {l : List Int} {v : Int} : occ l v ≤ l.length := by
  unfold occ; have := List.countP_le_length (p := fun x => decide (x = v)) (l := l); omega
theorem Lft.hi {n : Nat} {L r : List Int} (h : Lft n L r) {v : Nat} (hv : v < n) : L.getD v 0 ≤ r.length := by
  have := occ_le (l := r) (v := (v : Int))
  rcases h.at_ v hv with q | q <;> omega
/-! ### The arcs stand as they are taken away -/
end Go.Ab
