/- Of choosing one of each set, each once (Hall), and of tables whose lines are all as much (Birkhoff): the plain laws. -/
import Derived.Test.YtakfbagokponeaaPlDet
namespace Go.Ab
theorem sum_le {f g : Nat → Int} : ∀ {n : Nat}, (∀ j, j < n → f j ≤ g j) → sumTo n f ≤ sumTo n g
  | 0, _ => Int.le_refl _
  | n + 1, h => by
    have h1 := sum_le (n := n) (fun j hj => h j (by omega))
    have h2 := h n (by omega)
    simp only [sumTo]; omega
theorem sum_nonneg {f : Nat → Int} {n : Nat} (h : ∀ j, j < n → 0 ≤ f j) : 0 ≤ sumTo n f := by
  have := sum_le (f := fun _ => 0) (g := f) h
  rw [sum_zero (fun _ _ => rfl)] at this
  exact this
theorem sum_mem_le {f : Nat → Int} {n : Nat} (h : ∀ j, j < n → 0 ≤ f j) {k : Nat} (hk : k < n) : f k ≤ sumTo n f := by
  have h1 := sum_one (f := fun j => if j = k then f k else 0) (n := n) hk (fun j _ hj => if_neg hj)
  rw [if_pos rfl] at h1
  rw [← h1]
  refine sum_le fun j hj => ?_
  split
  · rename_i e; subst e; exact Int.le_refl _
  · exact h j hj
/-- How many of the first n a test takes. -/
def b2i (b : Bool) : Int := if b = true then 1 else 0
theorem b2i_t : b2i true = 1 := rfl
theorem b2i_f : b2i false = 0 := rfl
theorem b2i_nn (b : Bool) : 0 ≤ b2i b ∧ b2i b ≤ 1 := by cases b <;> decide
def card (n : Nat) (P : Nat → Bool) : Int := sumTo n fun i => b2i (P i)
theorem card_le {n : Nat} {P Q : Nat → Bool} (h : ∀ i, i < n → P i = true → Q i = true) : card n P ≤ card n Q := sum_le fun i hi => by
  have := h i hi
  cases hp : P i <;> cases hq : Q i <;> simp_all [b2i]
theorem card_two {n : Nat} (P Q : Nat → Bool) : card n P + card n Q = card n (fun i => P i || Q i) + card n (fun i => P i && Q i) := by
  unfold card
  rw [← sum_add, ← sum_add]
  exact sum_congr fun i _ => by
    show b2i (P i) + b2i (Q i) = b2i (P i || Q i) + b2i (P i && Q i)
    cases P i <;> cases Q i <;> rfl
theorem card_drop {n : Nat} {P : Nat → Bool} {i : Nat} (hi : i < n) (h : P i = true) : card n P = card n (fun k => P k && !decide (k = i)) + 1 := by
  have h1 := sum_one (f := fun j => if j = i then (1 : Int) else 0) (n := n) hi (fun j _ hj => if_neg hj)
  rw [if_pos rfl] at h1
  unfold card
  rw [← h1, ← sum_add]
  refine sum_congr fun k _ => ?_
  by_cases e : k = i
  · subst e; simp [h, b2i]
  · simp [e, b2i]
/-- What a set of rows sees. -/
def sees (n : Nat) (E : Nat → Nat → Bool) (P : Nat → Bool) : Nat → Bool := fun j => (List.range n).any fun i => P i && E i j
theorem sees_iff {n : Nat} {E : Nat → Nat → Bool} {P : Nat → Bool} {j : Nat} : sees n E P j = true ↔ ∃ i, i < n ∧ P i = true ∧ E i j = true := by
  simp only [sees, List.any_eq_true, List.mem_range, Bool.and_eq_true]
def Hall (n : Nat) (E : Nat → Nat → Bool) : Prop := ∀ P, card n P ≤ card n (sees n E P)
def less (E : Nat → Nat → Bool) (i x : Nat) : Nat → Nat → Bool := fun k j => E k j && !(decide (k = i) && decide (j = x))
theorem less_le {E : Nat → Nat → Bool} {i x k j : Nat} (h : less E i x k j = true) : E k j = true := by
  unfold less at h; rw [Bool.and_eq_true] at h; exact h.1
theorem less_of {E : Nat → Nat → Bool} {i x k j : Nat} (h : E k j = true) (h2 : ¬ (k = i ∧ j = x)) : less E i x k j = true := by
  unfold less; rw [h]
  by_cases e : k = i
  · have : j ≠ x := fun q => h2 ⟨e, q⟩
    simp [this]
  · simp [e]
def edges (n : Nat) (E : Nat → Nat → Bool) : Int := sumTo n fun i => card n (E i)
theorem edges_less {n : Nat} {E : Nat → Nat → Bool} {i x : Nat} (hi : i < n) (hx : x < n) (h : E i x = true) : edges n (less E i x) + 1 ≤ edges n E := by
  have h1 := card_drop (P := E i) hx h
  have h2 := sum_one (f := fun j => if j = i then (1 : Int) else 0) (n := n) hi (fun j _ hj => if_neg hj)
  rw [if_pos rfl] at h2
  unfold edges
  rw [← h2, ← sum_add]
  refine sum_le fun k hk => ?_
  by_cases e : k = i
  · subst e
    rw [if_pos rfl, h1]
    have : card n (less E k x k) ≤ card n (fun j => E k j && !decide (j = x)) := card_le fun j _ hj => by
      unfold less at hj; simpa using hj
    omega
  · rw [if_neg e]
    have : card n (less E i x k) ≤ card n (E k) := card_le fun j _ hj => less_le hj
    omega
theorem hall_less {n : Nat} {E : Nat → Nat → Bool} {i x : Nat} (hH : Hall n E) {P : Nat → Bool} (hP : card n (sees n (less E i x) P) < card n P) : P i = true := by
  cases hp : P i
  · exfalso
    have h1 := hH P
    have h2 : card n (sees n E P) ≤ card n (sees n (less E i x) P) := card_le fun j _ hj => by
      obtain ⟨k, k1, k2, k3⟩ := sees_iff.1 hj
      exact sees_iff.2 ⟨k, k1, k2, less_of k3 fun q => by rw [q.1, hp] at k2; cases k2⟩
    omega
  · rfl
theorem hall_step {n : Nat} {E : Nat → Nat → Bool} (hH : Hall n E) {i x y : Nat} (hi : i < n) (hxy : x ≠ y) : Hall n (less E i x) ∨ Hall n (less E i y) := by
  rcases Classical.em (Hall n (less E i x)) with h | h
  · exact .inl h
  right
  intro Q
  rcases Int.lt_or_le (card n (sees n (less E i y) Q)) (card n Q) with hq | hq
  · exfalso
    obtain ⟨P, hP⟩ := Classical.not_forall.1 h
    have hP := Int.not_le.1 hP
    have pi := hall_less hH hP
    have qi := hall_less hH hq
    have a1 := card_two (n := n) (sees n (less E i x) P) (sees n (less E i y) Q)
    have a2 := hH fun k => P k || Q k
    have a3 := hH fun k => (P k && Q k) && !decide (k = i)
    have a4 := card_two (n := n) P Q
    have a5 := card_drop (n := n) (P := fun k => P k && Q k) hi (by simp [pi, qi])
    have a6 : card n (sees n E fun k => P k || Q k) ≤ card n fun j => sees n (less E i x) P j || sees n (less E i y) Q j := card_le fun j _ hj => by
      obtain ⟨k, k1, k2, k3⟩ := sees_iff.1 hj
      rw [Bool.or_eq_true]
      rcases Bool.or_eq_true _ _ ▸ k2 with p | p
      · by_cases e : k = i ∧ j = x
        · exact .inr (sees_iff.2 ⟨k, k1, by rw [e.1]; exact qi, less_of k3 fun q => hxy (by rw [← e.2]; exact q.2)⟩)
        · exact .inl (sees_iff.2 ⟨k, k1, p, less_of k3 e⟩)
      · by_cases e : k = i ∧ j = y
        · exact .inl (sees_iff.2 ⟨k, k1, by rw [e.1]; exact pi, less_of k3 fun q => hxy (by rw [← e.2]; exact q.2.symm)⟩)
        · exact .inr (sees_iff.2 ⟨k, k1, p, less_of k3 e⟩)
    have a7 : card n (sees n E fun k => (P k && Q k) && !decide (k = i)) ≤ card n fun j => sees n (less E i x) P j && sees n (less E i y) Q j := card_le fun j _ hj => by
      obtain ⟨k, k1, k2, k3⟩ := sees_iff.1 hj
      simp only [Bool.and_eq_true, Bool.not_eq_true', decide_eq_false_iff_not] at k2
      rw [Bool.and_eq_true]
      exact ⟨sees_iff.2 ⟨k, k1, k2.1.1, less_of k3 fun q => k2.2 q.1⟩, sees_iff.2 ⟨k, k1, k2.1.2, less_of k3 fun q => k2.2 q.1⟩⟩
    omega
  · exact hq
theorem hall_single {n : Nat} {E : Nat → Nat → Bool} (hH : Hall n E) {i : Nat} (hi : i < n) : ∃ j, j < n ∧ E i j = true := by
  have h1 := hH fun k => decide (k = i)
  have h2 := card_drop (n := n) (P := fun k => decide (k = i)) hi (by simp)
  rcases Classical.em (∃ j, j < n ∧ E i j = true) with h | h
  · exact h
  exfalso
  have h3 : card n (sees n E fun k => decide (k = i)) = 0 := sum_zero fun j hj => by
    cases hs : sees n E (fun k => decide (k = i)) j
    · rfl
    · obtain ⟨k, k1, k2, k3⟩ := sees_iff.1 hs
      rw [of_decide_eq_true k2] at k3
      exact absurd ⟨j, hj, k3⟩ h
  have h4 : 0 ≤ card n (fun k => decide (k = i) && !decide (k = i)) := sum_nonneg fun j _ => (b2i_nn _).1
  omega
theorem hall_one {n : Nat} {E : Nat → Nat → Bool} (hH : Hall n E) (h1 : ∀ i x y, i < n → x < n → y < n → E i x = true → E i y = true → x = y) {i k j : Nat} (hi : i < n) (hk : k < n) (hj : j < n) (e1 : E i j = true) (e2 : E k j = true) : i = k := by
  rcases Classical.em (i = k) with h | h
  · exact h
  exfalso
  have a1 := hH fun m => decide (m = i) || decide (m = k)
  have a2 := card_drop (n := n) (P := fun m => decide (m = i) || decide (m = k)) hi (by simp)
  have a3 := card_drop (n := n) (P := fun m => (decide (m = i) || decide (m = k)) && !decide (m = i)) hk (by simp; exact fun q => h q.symm)
  have a4 : 0 ≤ card n (fun m => ((decide (m = i) || decide (m = k)) && !decide (m = i)) && !decide (m = k)) := sum_nonneg fun j _ => (b2i_nn _).1
  have a5 : card n (sees n E fun m => decide (m = i) || decide (m = k)) ≤ card n (fun m => decide (m = j)) := card_le fun m hm hs => by
    obtain ⟨c, c1, c2, c3⟩ := sees_iff.1 hs
    simp only [Bool.or_eq_true, decide_eq_true_eq] at c2 ⊢
    rcases c2 with q | q
    · rw [q] at c3; exact h1 i m j hi hm hj c3 e1
    · rw [q] at c3; exact h1 k m j hk hm hj c3 e2
  have a6 : card n (fun m => decide (m = j)) = 1 := by
    unfold card
    rw [sum_one (c := j) hj (fun m _ q => by show b2i (decide (m = j)) = 0; rw [decide_eq_false q]; rfl)]
    show b2i (decide (j = j)) = 1
    rw [decide_eq_true rfl]; rfl
  omega
theorem hall_pick {n : Nat} : ∀ (m : Nat) {E : Nat → Nat → Bool}, edges n E ≤ m → Hall n E → ∃ f : Nat → Nat, (∀ i, i < n → f i < n ∧ E i (f i) = true) ∧ ∀ i k, i < n → k < n → f i = f k → i = k := by
  intro m
  induction m with
  | zero =>
    intro E hm hH
    refine ⟨fun _ => 0, fun i hi => ?_, fun i k hi _ _ => ?_⟩
    all_goals
      exfalso
      obtain ⟨j, hj, he⟩ := hall_single hH hi
      have := edges_less hi hj he
      have h0 : 0 ≤ edges n (less E i j) := sum_nonneg fun k _ => sum_nonneg fun j _ => (b2i_nn _).1
      omega
  | succ m ih =>
    intro E hm hH
    rcases Classical.em (∀ i x y, i < n → x < n → y < n → E i x = true → E i y = true → x = y) with h1 | h1
    · have hc : ∀ i, ∃ j, i < n → j < n ∧ E i j = true := fun i => by
        by_cases hi : i < n
        · obtain ⟨j, hj, he⟩ := hall_single hH hi; exact ⟨j, fun _ => ⟨hj, he⟩⟩
        · exact ⟨0, fun q => absurd q hi⟩
      refine ⟨fun i => Classical.choose (hc i), fun i hi => Classical.choose_spec (hc i) hi, fun i k hi hk e => ?_⟩
      have a1 := Classical.choose_spec (hc i) hi
      have a2 := Classical.choose_spec (hc k) hk
      have e : Classical.choose (hc i) = Classical.choose (hc k) := e
      rw [← e] at a2
      exact hall_one hH h1 hi hk a1.1 a1.2 a2.2
    · obtain ⟨i, x, y, hi, hx, hy, ex, ey, hne⟩ : ∃ i x y, i < n ∧ x < n ∧ y < n ∧ E i x = true ∧ E i y = true ∧ x ≠ y := by
        refine Classical.byContradiction fun q => h1 fun i x y hi hx hy ex ey => Classical.byContradiction fun hne => q ⟨i, x, y, hi, hx, hy, ex, ey, hne⟩
      rcases hall_step hH hi hne with q | q
      · obtain ⟨f, f1, f2⟩ := ih (by have := edges_less hi hx ex; omega) q
        exact ⟨f, fun i hi => ⟨(f1 i hi).1, less_le (f1 i hi).2⟩, f2⟩
      · obtain ⟨f, f1, f2⟩ := ih (by have := edges_less hi hy ey; omega) q
        exact ⟨f, fun i hi => ⟨(f1 i hi).1, less_le (f1 i hi).2⟩, f2⟩
theorem hall {n : Nat} {E : Nat → Nat → Bool} (hH : Hall n E) : ∃ f : Nat → Nat, (∀ i, i < n → f i < n ∧ E i (f i) = true) ∧ ∀ i k, i < n → k < n → f i = f k → i = k :=
  hall_pick (edges n E).toNat (by omega) hH
/-- A table of numbers from 0 on whose lines are all as much, above 0, has a choice of one place in each row and column where nothing is 0. -/
theorem birkhoff {n : Nat} {A : Nat → Nat → Int} {s : Int} (h0 : ∀ i j, i < n → j < n → 0 ≤ A i j) (hr : ∀ i, i < n → sumTo n (A i) = s) (hc : ∀ j, j < n → sumTo n (fun i => A i j) = s) (hs : 0 < s) :
    ∃ f : Nat → Nat, (∀ i, i < n → f i < n ∧ 0 < A i (f i)) ∧ ∀ i k, i < n → k < n → f i = f k → i = k := by
  have hH : Hall n fun i j => decide (0 < A i j) := fun P => by
    have e1 : s * card n P = sumTo n fun i => sumTo n fun j => b2i (P i) * A i j := by
      unfold card
      rw [← sum_mul]
      exact sum_congr fun i hi => by rw [sum_mul, hr i hi, Int.mul_comm]
    have e2 : s * card n (sees n (fun i j => decide (0 < A i j)) P) = sumTo n fun i => sumTo n fun j => b2i (sees n (fun i j => decide (0 < A i j)) P j) * A i j := by
      rw [sum_comm (fun j i => b2i (sees n (fun i j => decide (0 < A i j)) P j) * A i j) n n]
      unfold card
      rw [← sum_mul]
      exact sum_congr fun j hj => by rw [sum_mul, hc j hj, Int.mul_comm]
    have e3 : s * card n P ≤ s * card n (sees n (fun i j => decide (0 < A i j)) P) := by
      rw [e1, e2]
      refine sum_le fun i hi => sum_le fun j hj => ?_
      have hA := h0 i j hi hj
      cases hp : P i
      · rw [b2i_f, Int.zero_mul]
        exact Int.mul_nonneg (b2i_nn _).1 hA
      · rw [b2i_t]
        rcases Int.lt_or_le 0 (A i j) with q | q
        · rw [sees_iff.2 ⟨i, hi, hp, decide_eq_true q⟩, b2i_t]; exact Int.le_refl _
        · have : A i j = 0 := by omega
          rw [this, Int.mul_zero, Int.mul_zero]; exact Int.le_refl _
    exact Int.le_of_mul_le_mul_left e3 hs
  obtain ⟨f, f1, f2⟩ := hall hH
  exact ⟨f, fun i hi => ⟨(f1 i hi).1, of_decide_eq_true (f1 i hi).2⟩, f2⟩
end Go.Ab
