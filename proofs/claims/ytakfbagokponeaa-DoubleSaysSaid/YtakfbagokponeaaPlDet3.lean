/- Of determinants of tables: the plain laws. -/
import Derived.Test.YtakfbagokponeaaPlDet2
import Derived.Test.YtakfbagokponeaaPlA
namespace Go.Ab
/-! ### By the first row -/
def cutCol (k : Nat) (r : List Int) : List Int := r.take k ++ r.drop (k + 1)
theorem cutCol_at {k : Nat} {r : List Int} (hk : k < r.length) (c : Nat) : (cutCol k r).getD c 0 = r.getD (sk k c) 0 := by
  unfold cutCol
  simp only [List.getD_eq_getElem?_getD]
  by_cases h : c < k
  · rw [sk_lt h, List.getElem?_append_left (by rw [List.length_take]; omega), List.getElem?_take, if_pos h]
  · rw [sk_ge (by omega), List.getElem?_append_right (by rw [List.length_take]; omega), List.length_take, List.getElem?_drop, show k + 1 + (c - min k r.length) = c + 1 by omega]
def restOfM (k : Nat) (m : List (List Int)) : List (List Int) := (m.drop 1).map (cutCol k)
theorem restOfM_at {n k : Nat} {m : List (List Int)} (hq : Sq (n + 1) m) (hk : k < n + 1) {i : Nat} (hi : i < n) (c : Nat) : at2 (restOfM k m) i c = at2 m (i + 1) (sk k c) := by
  have hl := hq.len
  have hr := hq.row (i + 1) (by omega)
  unfold at2 restOfM
  rw [getD_lt _ _ i (by rw [List.length_map, List.length_drop]; omega), List.getElem_map, List.getElem_drop]
  have e : m[1 + i]'(by omega) = m.getD (i + 1) [] := by rw [getD_lt m [] (i + 1) (by omega)]; congr 1; omega
  rw [e, cutCol_at (by omega)]
/-- Entries of that size at the most. -/
def EntB (n : Nat) (b : Int) (m : List (List Int)) : Prop := ∀ i j, i < n → j < n → -b ≤ at2 m i j ∧ at2 m i j ≤ b
theorem EntB.rest {n k : Nat} {b : Int} {m : List (List Int)} (h : EntB (n + 1) b m) (hq : Sq (n + 1) m) (hk : k < n + 1) : EntB n b (restOfM k m) := fun i j hi hj => by
  rw [restOfM_at hq hk hi]
  exact h _ _ (by omega) (sk_bound hj)
/-! ### The error -/
theorem EntB.i64 {n : Nat} {b : Int} {m : List (List Int)} (h : EntB n b m) (hb : b ≤ 9223372036854775807) : ∀ i j, i < n → j < n → -9223372036854775807 ≤ at2 m i j ∧ at2 m i j ≤ 9223372036854775807 := fun i j hi hj => by
  have := h i j hi hj; omega
end Go.Ab
