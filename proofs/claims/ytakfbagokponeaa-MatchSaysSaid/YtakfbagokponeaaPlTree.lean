/- Of codes of trees: what is read out of a code: the plain laws. -/
import Derived.Test.YtakfbagokponeaaPlA
import Derived.Test.YtakfbagokponeaaPlA
import Derived.Test.YtakfbagokponeaaPlB
namespace Go.Ab
def fst0 (l : List Int) : Int := idxOf (fun y => decide ((0 : Int) = y)) l
def occ (l : List Int) (v : Int) : Int := (l.countP fun x => decide (x = v) : Nat)
theorem occ_cons (k v : Int) (r : List Int) : occ (k :: r) v = occ r v + if k = v then 1 else 0 := by
  unfold occ
  rw [List.countP_cons]
  by_cases h : k = v
  · rw [if_pos (decide_eq_true h), if_pos h]; omega
  · rw [if_neg (by rw [decide_eq_false h]; decide), if_neg h]; omega
theorem occ_pos {l : List Int} {v : Int} : 0 ≤ occ l v := Int.natCast_nonneg _
def sumZ : List Int → Int
  | [] => 0
  | x :: r => x + sumZ r
theorem sumZ_set : ∀ {l : List Int} {i : Nat} {v : Int}, i < l.length → sumZ (l.set i v) = sumZ l - l.getD i 0 + v
  | x :: r, 0, v, _ => by simp [sumZ]; omega
  | x :: r, i + 1, v, h => by
    have := sumZ_set (l := r) (i := i) (v := v) (by simpa using h)
    simp only [List.set_cons_succ, sumZ, this, List.getD_cons_succ]
    omega
/-- How many are dead: less the number of those below 0. -/
def deadZ (l : List Int) : Nat := l.countP fun x => decide (x = -1)
theorem deadZ_set : ∀ {l : List Int} {i : Nat} {v : Int}, i < l.length → (deadZ (l.set i v) : Int) = deadZ l - (if l.getD i 0 = -1 then 1 else 0) + if v = -1 then 1 else 0
  | x :: r, 0, v, _ => by
    simp only [deadZ, List.set_cons_zero, List.countP_cons, List.getD_cons_zero, decide_eq_true_eq]
    split <;> split <;> omega
  | x :: r, i + 1, v, h => by
    have := deadZ_set (l := r) (i := i) (v := v) (by simpa using h)
    simp only [deadZ] at this
    simp only [deadZ, List.set_cons_succ, List.countP_cons, List.getD_cons_succ, decide_eq_true_eq]
    split <;> omega
theorem sum_nozero : ∀ {l : List Int}, (∀ i : Nat, i < l.length → -1 ≤ l.getD i 0 ∧ l.getD i 0 ≠ 0) → (l.length : Int) - 2 * deadZ l ≤ sumZ l
  | [], _ => by simp [sumZ, deadZ]
  | x :: r, h => by
    have h0 : -1 ≤ x ∧ x ≠ 0 := by simpa using h 0 (by simp)
    have h1 := sum_nozero (l := r) (fun i hi => by have := h (i + 1) (by simpa using hi); simpa using this)
    simp only [deadZ] at h1
    simp only [sumZ, deadZ, List.countP_cons, decide_eq_true_eq, List.length_cons]
    split <;> omega
theorem fst0_at {l : List Int} {i : Nat} (h : ∀ j, j < i → l.getD j 0 ≠ 0) (hi : i < l.length) (h0 : l.getD i 0 = 0) : fst0 l = i :=
  idxOf_at (d := 0) (fun j hj => decide_eq_false (fun q => h j hj q.symm)) hi (decide_eq_true h0.symm)
/-- The first that is 0. -/
theorem fst0_ex {l : List Int} (h : ∃ i : Nat, i < l.length ∧ l.getD i 0 = 0) : ∃ i : Nat, fst0 l = i ∧ i < l.length ∧ l.getD i 0 = 0 ∧ ∀ j, j < i → l.getD j 0 ≠ 0 := by
  obtain ⟨m, hm, h0⟩ := h
  have key : ∀ m : Nat, (∀ k, k < m → l.getD k 0 ≠ 0) ∨ ∃ j, j < m ∧ l.getD j 0 = 0 ∧ ∀ k, k < j → l.getD k 0 ≠ 0 := by
    intro m
    induction m with
    | zero => exact .inl fun k hk => by omega
    | succ m ih =>
      rcases ih with ih | ⟨j, j1, j2, j3⟩
      · by_cases e : l.getD m 0 = 0
        · exact .inr ⟨m, by omega, e, ih⟩
        · left
          intro k hk
          rcases Nat.lt_succ_iff_lt_or_eq.1 hk with q | q
          · exact ih k q
          · rw [q]; exact e
      · exact .inr ⟨j, by omega, j2, j3⟩
  rcases key (m + 1) with q | ⟨j, j1, j2, j3⟩
  · exact absurd h0 (q m (by omega))
  · exact ⟨j, fst0_at j3 (by omega) j2, by omega, j2, j3⟩
/-- The numbers that are left: -1 where a node is gone, else how often it still stands in the code. -/
structure Lft (n : Nat) (L r : List Int) : Prop where
  len : L.length = n
  rng : ∀ x ∈ r, 0 ≤ x ∧ x < n
  at_ : ∀ v : Nat, v < n → (L.getD v 0 = -1 ∧ occ r v = 0) ∨ L.getD v 0 = occ r v
  dead : n = r.length + 2 + deadZ L
  sum : sumZ L = r.length - deadZ L
theorem Lft.low {n : Nat} {L r : List Int} (h : Lft n L r) {v : Nat} (hv : v < n) : -1 ≤ L.getD v 0 := by
  have := occ_pos (l := r) (v := (v : Int))
  rcases h.at_ v hv with q | q <;> omega
theorem Lft.zero {n : Nat} {L r : List Int} (h : Lft n L r) : ∃ i : Nat, i < L.length ∧ L.getD i 0 = 0 := by
  rcases Classical.em (∃ i : Nat, i < L.length ∧ L.getD i 0 = 0) with q | q
  · exact q
  · exfalso
    have h1 := sum_nozero (l := L) (fun i hi => ⟨h.low (by rw [← h.len]; exact hi), fun e => q ⟨i, hi, e⟩⟩)
    have h2 := h.sum; have h3 := h.dead; have h4 := h.len
    omega
theorem Lft.head {n : Nat} {L r : List Int} {k : Int} (h : Lft n L (k :: r)) : ∃ f : Nat, fst0 L = f ∧ f < n ∧ L.getD f 0 = 0 ∧ (∀ j, j < f → L.getD j 0 ≠ 0) ∧ 0 ≤ k ∧ k < n ∧ 1 ≤ L.getD k.toNat 0 ∧ (f : Int) ≠ k := by
  obtain ⟨f, f1, f2, f3, f4⟩ := fst0_ex h.zero
  rw [h.len] at f2
  have hk := h.rng k List.mem_cons_self
  have h1 : 1 ≤ L.getD k.toNat 0 := by
    have ho := occ_cons k (k.toNat : Int) r
    rw [if_pos (by omega)] at ho
    have := occ_pos (l := r) (v := (k.toNat : Int))
    rcases h.at_ k.toNat (by omega) with q | q <;> omega
  refine ⟨f, f1, f2, f3, f4, hk.1, hk.2, h1, fun e => ?_⟩
  rw [show k.toNat = f by omega] at h1
  omega
theorem getD_set_if (L : List Int) (i j : Nat) (x : Int) (h : i < L.length) : (L.set i x).getD j 0 = if j = i then x else L.getD j 0 := by
  by_cases q : j = i
  · rw [if_pos q, q, getD_set_self _ _ _ _ h]
  · rw [if_neg q, getD_set_ne _ _ _ _ _ (Ne.symm q)]
/-! ### Degrees -/
theorem Lft.two {n : Nat} {L : List Int} (h : Lft n L []) : ∃ a b : Nat, a < b ∧ b < n ∧ fst0 L = a ∧ fst0 (L.set a (-1)) = b ∧ ∀ v : Nat, v < n → L.getD v 0 = if v = a ∨ v = b then 0 else -1 := by
  obtain ⟨a, a1, a2, a3, a4⟩ := fst0_ex h.zero
  have hl := h.len; have hd := h.dead; have hs := h.sum
  simp only [List.length_nil] at hd hs
  have hd1 := deadZ_set (l := L) (i := a) (v := -1) (by omega)
  have hs1 := sumZ_set (l := L) (i := a) (v := -1) (by omega)
  rw [a3, if_neg (by decide), if_pos rfl] at hd1
  rw [a3] at hs1
  have hat : ∀ v : Nat, v < n → L.getD v 0 = -1 ∨ L.getD v 0 = 0 := fun v hv => by
    rcases h.at_ v hv with q | q
    · exact .inl q.1
    · right; rw [q]; rfl
  have hz : ∃ i : Nat, i < (L.set a (-1)).length ∧ (L.set a (-1)).getD i 0 = 0 := by
    rcases Classical.em (∃ i : Nat, i < (L.set a (-1)).length ∧ (L.set a (-1)).getD i 0 = 0) with q | q
    · exact q
    · exfalso
      have h1 := sum_nozero (l := L.set a (-1)) (fun i hi => ⟨by
        rw [List.length_set] at hi
        rw [getD_set_if _ _ _ _ (by omega)]
        split
        · omega
        · rcases hat i (by omega) with e | e <;> omega, fun e => q ⟨i, hi, e⟩⟩)
      rw [List.length_set] at h1
      omega
  obtain ⟨b, b1, b2, b3, b4⟩ := fst0_ex hz
  rw [List.length_set] at b2
  have hba : b ≠ a := by
    intro e
    rw [e, getD_set_self _ _ _ _ (by omega)] at b3; omega
  have hb0 : L.getD b 0 = 0 := by rw [getD_set_if _ _ _ _ (by omega), if_neg hba] at b3; exact b3
  have hab : a < b := by
    rcases Nat.lt_trichotomy a b with q | q | q
    · exact q
    · exact absurd q.symm hba
    · exact absurd hb0 (a4 b q)
  refine ⟨a, b, hab, by omega, a1, b1, fun v hv => ?_⟩
  by_cases e : v = a ∨ v = b
  · rw [if_pos e]
    rcases e with e | e
    · rw [e]; exact a3
    · rw [e]; exact hb0
  · rw [if_neg e]
    rcases hat v hv with q | q
    · exact q
    · exfalso
      -- a third one
      have hd2 := deadZ_set (l := L.set a (-1)) (i := b) (v := -1) (by rw [List.length_set]; omega)
      have hs2 := sumZ_set (l := L.set a (-1)) (i := b) (v := -1) (by rw [List.length_set]; omega)
      rw [b3, if_neg (by decide), if_pos rfl] at hd2
      rw [b3] at hs2
      have hv3 : ((L.set a (-1)).set b (-1)).getD v 0 = 0 := by
        rw [getD_set_if _ _ _ _ (by rw [List.length_set]; omega), if_neg (by omega), getD_set_if _ _ _ _ (by omega), if_neg (by omega)]; exact q
      have hd3 := deadZ_set (l := (L.set a (-1)).set b (-1)) (i := v) (v := -1) (by rw [List.length_set, List.length_set]; omega)
      rw [hv3, if_neg (by decide), if_pos rfl] at hd3
      have hle := List.countP_le_length (p := fun x => decide (x = (-1 : Int))) (l := ((L.set a (-1)).set b (-1)).set v (-1))
      have : deadZ (((L.set a (-1)).set b (-1)).set v (-1)) ≤ n := by
        simp only [List.length_set] at hle
        unfold deadZ; omega
      omega
/-! ### What hangs together -/
/-! ### The first leaf -/
end Go.Ab
