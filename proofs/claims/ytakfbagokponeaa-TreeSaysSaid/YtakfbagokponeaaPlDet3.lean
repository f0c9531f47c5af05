/- Of determinants of tables: the plain laws. -/
import Derived.Test.YtakfbagokponeaaPlDet2
import Derived.Test.YtakfbagokponeaaPlA
namespace Go.Ab
/-! ### By the first row -/
def cutCol (k : Nat) (r : List Int) : List Int := r.take k ++ r.drop (k + 1)
theorem cutCol_at {k : Nat} {r : List Int} (hk : k < r.length) (c : Nat) : (cutCol k r).getD c 0 = r.getD (sk k c) 0 := by
  unfold cutCol
  simp only [List.getD_eq_getElem?_getD]
  by_cases h : c < k
  · rw [sk_lt h, List.getElem?_append_left (by rw [List.length_take]; omega), List.getElem?_take, if_pos h]
  · rw [sk_ge (by omega), List.getElem?_append_right (by rw [List.length_take]; omega), List.length_take, List.getElem?_drop, show k + 1 + (c - min k r.length) = c + 1 by omega]
theorem cutCol_len {k : Nat} {r : List Int} (hk : k < r.length) : (cutCol k r).length = r.length - 1 := by
  unfold cutCol; rw [List.length_append, List.length_take, List.length_drop]; omega
def restOfM (k : Nat) (m : List (List Int)) : List (List Int) := (m.drop 1).map (cutCol k)
theorem restOfM_at {n k : Nat} {m : List (List Int)} (hq : Sq (n + 1) m) (hk : k < n + 1) {i : Nat} (hi : i < n) (c : Nat) : at2 (restOfM k m) i c = at2 m (i + 1) (sk k c) := by
  have hl := hq.len
  have hr := hq.row (i + 1) (by omega)
  unfold at2 restOfM
  rw [getD_lt _ _ i (by rw [List.length_map, List.length_drop]; omega), List.getElem_map, List.getElem_drop]
  have e : m[1 + i]'(by omega) = m.getD (i + 1) [] := by rw [getD_lt m [] (i + 1) (by omega)]; congr 1; omega
  rw [e, cutCol_at (by omega)]
theorem restOfM_sq {n k : Nat} {m : List (List Int)} (hq : Sq (n + 1) m) (hk : k < n + 1) : Sq n (restOfM k m) := by
  have hl := hq.len
  refine ⟨by unfold restOfM; rw [List.length_map, List.length_drop]; omega, fun i hi => ?_⟩
  have hr := hq.row (i + 1) (by omega)
  unfold restOfM
  rw [getD_lt _ _ i (by rw [List.length_map, List.length_drop]; omega), List.getElem_map, List.getElem_drop]
  have e : m[1 + i]'(by omega) = m.getD (i + 1) [] := by rw [getD_lt m [] (i + 1) (by omega)]; congr 1; omega
  rw [e, cutCol_len (by omega)]; omega
theorem restOfM_det {n k : Nat} {m : List (List Int)} (hq : Sq (n + 1) m) (hk : k < n + 1) : det n (at2 (restOfM k m)) = det n fun i c => at2 m (i + 1) (sk k c) :=
  det_congr fun _ c hi _ => restOfM_at hq hk hi c
/-- The sum of the first k of the first row. -/
def detTo (n : Nat) (m : List (List Int)) (k : Nat) : Int := sumTo k fun j => sg j * at2 m 0 j * det n fun i c => at2 m (i + 1) (sk j c)
theorem detTo_all (n : Nat) (m : List (List Int)) : detTo n m (n + 1) = det (n + 1) (at2 m) := rfl
theorem detTo_step {n k : Nat} {m : List (List Int)} (hq : Sq (n + 1) m) (hk : k < n + 1) : detTo n m (k + 1) = detTo n m k + sg k * at2 m 0 k * det n (at2 (restOfM k m)) := by
  rw [restOfM_det hq hk]; rfl
theorem detTo_skip {n k : Nat} {m : List (List Int)} (h : at2 m 0 k = 0) : detTo n m (k + 1) = detTo n m k := by
  have : detTo n m (k + 1) = detTo n m k + sg k * at2 m 0 k * det n fun i c => at2 m (i + 1) (sk k c) := rfl
  rw [this, h, Int.mul_zero, Int.zero_mul, Int.add_zero]
/-- Entries of that size at the most. -/
def EntB (n : Nat) (b : Int) (m : List (List Int)) : Prop := ∀ i j, i < n → j < n → -b ≤ at2 m i j ∧ at2 m i j ≤ b
theorem EntB.rest {n k : Nat} {b : Int} {m : List (List Int)} (h : EntB (n + 1) b m) (hq : Sq (n + 1) m) (hk : k < n + 1) : EntB n b (restOfM k m) := fun i j hi hj => by
  rw [restOfM_at hq hk hi]
  exact h _ _ (by omega) (sk_bound hj)
theorem EntB.b0 {n : Nat} {b : Int} {m : List (List Int)} (h : EntB (n + 1) b m) : 0 ≤ b := by have := h 0 0 (by omega) (by omega); omega
theorem detTo_bd {n k : Nat} {b : Int} {m : List (List Int)} (h : EntB (n + 1) b m) (hk : k ≤ n + 1) : -dbd b (n + 1) ≤ detTo n m k ∧ detTo n m k ≤ dbd b (n + 1) := by
  have hX : ∀ j, j < k → -(b * dbd b n) ≤ sg j * at2 m 0 j * (det n fun i c => at2 m (i + 1) (sk j c)) ∧ sg j * at2 m 0 j * (det n fun i c => at2 m (i + 1) (sk j c)) ≤ b * dbd b n := fun j hj => by
    have h1 := mul_bd (sg_bd j) (h 0 j (by omega) (by omega))
    rw [Int.one_mul] at h1
    exact mul_bd h1 (det_bd fun i c hi hc => h (i + 1) (sk j c) (by omega) (sk_bound hc))
  have h1 := sum_bd hX
  have h2 : (k : Int) * (b * dbd b n) ≤ ((n + 1 : Nat) : Int) * (b * dbd b n) := by
    rcases Nat.eq_zero_or_pos k with q | q
    · subst q
      have h0 : 0 ≤ b * dbd b n := by
        have := det_bd (n := n) (m := b) (A := fun i c => at2 m (i + 1) c) fun i c hi hc => h _ _ (by omega) (by omega)
        exact Int.mul_nonneg h.b0 (by omega)
      rw [show ((0 : Nat) : Int) = 0 from rfl, Int.zero_mul]
      exact Int.mul_nonneg (by omega) h0
    · have := hX 0 q
      exact Int.mul_le_mul_of_nonneg_right (by omega) (by omega)
  show -(((n + 1 : Nat) : Int) * (b * dbd b n)) ≤ sumTo k _ ∧ sumTo k _ ≤ ((n + 1 : Nat) : Int) * (b * dbd b n)
  omega
theorem det_part {n k : Nat} {b : Int} {m : List (List Int)} (h : EntB (n + 1) b m) (hq : Sq (n + 1) m) (hk : k < n + 1) : (-b ≤ sg k * at2 m 0 k ∧ sg k * at2 m 0 k ≤ b) ∧ (-(b * dbd b n) ≤ sg k * at2 m 0 k * det n (at2 (restOfM k m)) ∧ sg k * at2 m 0 k * det n (at2 (restOfM k m)) ≤ b * dbd b n) ∧ b * dbd b n ≤ dbd b (n + 1) := by
  have h1 := mul_bd (sg_bd k) (h 0 k (by omega) hk)
  rw [Int.one_mul] at h1
  have h2 := mul_bd h1 (det_bd (n := n) (h.rest hq hk))
  refine ⟨h1, h2, ?_⟩
  show b * dbd b n ≤ ((n + 1 : Nat) : Int) * (b * dbd b n)
  have : (1 : Int) * (b * dbd b n) ≤ ((n + 1 : Nat) : Int) * (b * dbd b n) := Int.mul_le_mul_of_nonneg_right (by omega) (by omega)
  omega
/-! ### The error -/
theorem EntB.i64 {n : Nat} {b : Int} {m : List (List Int)} (h : EntB n b m) (hb : b ≤ 9223372036854775807) : ∀ i j, i < n → j < n → -9223372036854775807 ≤ at2 m i j ∧ at2 m i j ≤ 9223372036854775807 := fun i j hi hj => by
  have := h i j hi hj; omega
theorem Rnd.piv {n : Nat} {A : Nat → Nat → Int} {L L2 : List (List Int)} {k i j : Nat} {sign last : Int} {σ : Nat → Nat} (h : Bar n A L k sign last σ) (hr : Rnd n (prm A σ) L2 k i j) (hk : k < n) : at2 L2 k k = at2 L k k := by
  rw [hr.rest k k (by omega) hk (by omega) hk (.inl rfl), h.at_ k k (by omega) hk (by omega) hk]
theorem drop1_getD {α : Type} (l : List α) (d : α) (j : Nat) : (l.drop 1).getD j d = l.getD (j + 1) d := by
  rw [List.getD_eq_getElem?_getD, List.getElem?_drop, List.getD_eq_getElem?_getD, Nat.add_comm]
theorem cutRow_step {m : List (List Int)} {k j : Nat} (h : j + 1 < m.length) : ((m.drop 1).take (j + 1)).map (cutCol k) = ((m.drop 1).take j).map (cutCol k) ++ [cutCol k ((m.drop 1).getD j [])] := by
  rw [take_getD (m.drop 1) [] j (by rw [List.length_drop]; omega), List.map_append]; rfl
theorem cutRow_flat (k : Nat) (r : List Int) : List.flatten [List.take k r, List.drop (k + 1) r] = cutCol k r := by simp [cutCol]
end Go.Ab
