/- Of the table of a graph's degrees and arcs: its minors. -/
import Derived.Test.YtakfbagokponeaaPlDet3
namespace Go.Ab
def ev (a : Arc) (i : Nat) : Int := (if a.src = (i : Int) then 1 else 0) - (if a.dst = (i : Int) then 1 else 0)
def lap : List Arc → Nat → Nat → Int
  | [], _, _ => 0
  | a :: r, i, j => ev a i * ev a j + lap r i j
theorem lap_symm : ∀ (es : List Arc) (i j : Nat), lap es i j = lap es j i
  | [], _, _ => rfl
  | a :: r, i, j => by rw [lap, lap, lap_symm r i j, Int.mul_comm]
theorem lap_append : ∀ (es fs : List Arc) (i j : Nat), lap (es ++ fs) i j = lap es i j + lap fs i j
  | [], _, _, _ => by simp [lap]
  | a :: r, fs, i, j => by rw [List.cons_append, lap, lap, lap_append r]; omega
theorem lap_snoc (es : List Arc) (a : Arc) (i j : Nat) : lap (es ++ [a]) i j = lap es i j + ev a i * ev a j := by
  rw [lap_append]; simp [lap]
theorem sum_ite {n : Nat} {x : Int} (h0 : 0 ≤ x) (h1 : x < n) : sumTo n (fun j => if x = (j : Int) then 1 else 0) = 1 := by
  rw [sum_one (c := x.toNat) (by omega) (fun j _ hj => if_neg (by omega)), if_pos (by omega)]
theorem sum_sub (f g : Nat → Int) (n : Nat) : sumTo n (fun j => f j - g j) = sumTo n f - sumTo n g := by
  have h := sum_add f (fun j => -1 * g j) n
  rw [sum_mul] at h
  have e : sumTo n (fun j => f j - g j) = sumTo n (fun j => f j + -1 * g j) := sum_congr fun j _ => by omega
  rw [e, h]; omega
theorem ev_sum {n : Nat} {a : Arc} (h0 : 0 ≤ a.src) (h1 : a.src < n) (h2 : 0 ≤ a.dst) (h3 : a.dst < n) : sumTo n (ev a) = 0 := by
  have : sumTo n (ev a) = sumTo n (fun j => (if a.src = (j : Int) then 1 else 0) - (if a.dst = (j : Int) then 1 else 0)) := rfl
  rw [this, sum_sub, sum_ite h0 h1, sum_ite h2 h3]; rfl
def InN (n : Nat) (es : List Arc) : Prop := ∀ a ∈ es, 0 ≤ a.src ∧ a.src < n ∧ 0 ≤ a.dst ∧ a.dst < n
theorem lap_row {n : Nat} : ∀ {es : List Arc}, InN n es → ∀ i, sumTo n (fun j => lap es i j) = 0
  | [], _, _ => sum_zero fun _ _ => rfl
  | a :: r, h, i => by
    obtain ⟨h0, h1, h2, h3⟩ := h a List.mem_cons_self
    have e : sumTo n (fun j => lap (a :: r) i j) = sumTo n (fun j => ev a i * ev a j + lap r i j) := rfl
    rw [e, sum_add, sum_mul, ev_sum h0 h1 h2 h3, lap_row (fun b hb => h b (List.mem_cons_of_mem _ hb)) i]; simp
theorem det_rowsum0 {n : Nat} {A : Nat → Nat → Int} (hn : 0 < n) (h : ∀ i, i < n → sumTo n (A i) = 0) : det n A = 0 := by
  rw [← det_T]
  obtain ⟨m, rfl⟩ : ∃ m, n = m + 1 := ⟨n - 1, by omega⟩
  have h1 := det_comb (n := m + 1) (A := fun i j => A j i) (r := m) (by omega) 1 (fun _ => 1) (k := m) (by omega) (fun t ht => by omega)
  rw [Int.one_mul] at h1
  rw [← h1]
  refine det_zero_row (r := m) (by omega) fun j hj => ?_
  rw [setR_at]
  have h2 := h j hj
  rw [sumTo] at h2
  have h3 : sumTo m (fun t => 1 * A j t) = sumTo m (A j) := sum_congr fun t _ => Int.one_mul _
  rw [h3]; omega
def unit (s j : Nat) : Int := if j = s then 1 else 0
theorem det_congr_row {n : Nat} {A : Nat → Nat → Int} {r : Nat} {u v : Nat → Int} (h : ∀ j, j < n → u j = v j) : det n (setR A r u) = det n (setR A r v) :=
  det_congr fun i j _ hj => by
    by_cases e : i = r
    · subst e; rw [setR_at, setR_at, h j hj]
    · rw [setR_ne e, setR_ne e]
theorem det_unit_first {m : Nat} (A : Nat → Nat → Int) : det (m + 1) (setR A 0 (unit 0)) = det m fun i j => A (i + 1) (j + 1) := by
  rw [det, sum_one (c := 0) (by omega) (fun j _ hj => by rw [setR_at, unit, if_neg hj]; simp), setR_at, unit, if_pos rfl, sg_zero]
  simp only [Int.one_mul]
  exact det_congr fun i j _ _ => by rw [setR_ne (by omega), sk_zero]
theorem det_unit_last {m : Nat} (A : Nat → Nat → Int) : det (m + 1) (setR A m (unit m)) = det m A := by
  rw [det_lastRow, sum_one (c := m) (by omega) (fun j _ hj => by rw [setR_at, unit, if_neg hj]; simp), setR_at, unit, if_pos rfl, show sg (m + m) = 1 from if_pos (by omega)]
  simp only [Int.one_mul]
  exact det_congr fun i j hi hj => by rw [setR_ne (by omega), sk_lt hj]
def sumN : Nat → (Nat → Nat) → Nat
  | 0, _ => 0
  | n + 1, f => sumN n f + f n
def prodN : Nat → (Nat → Nat) → Nat
  | 0, _ => 1
  | n + 1, f => f 0 * prodN n fun i => f (i + 1)
theorem sumN_congr {f g : Nat → Nat} : ∀ {n : Nat}, (∀ j, j < n → f j = g j) → sumN n f = sumN n g
  | 0, _ => rfl
  | n + 1, h => by rw [sumN, sumN, sumN_congr (fun j hj => h j (by omega)), h n (by omega)]
theorem sumN_le {f g : Nat → Nat} : ∀ {n : Nat}, (∀ j, j < n → f j ≤ g j) → sumN n f ≤ sumN n g
  | 0, _ => Nat.le_refl _
  | n + 1, h => by rw [sumN, sumN]; exact Nat.add_le_add (sumN_le (fun j hj => h j (by omega))) (h n (by omega))
theorem sumN_add (f g : Nat → Nat) : ∀ n : Nat, sumN n (fun j => f j + g j) = sumN n f + sumN n g
  | 0 => rfl
  | n + 1 => by rw [sumN, sumN, sumN, sumN_add]; omega
theorem sumN_mul (a : Nat) (f : Nat → Nat) : ∀ n : Nat, sumN n (fun j => a * f j) = a * sumN n f
  | 0 => by simp [sumN]
  | n + 1 => by rw [sumN, sumN, sumN_mul, Nat.mul_add]
theorem sumN_skip (g : Nat → Nat) {j : Nat} : ∀ {n : Nat}, j ≤ n → sumN n (fun c => g (sk j c)) + g j = sumN (n + 1) g
  | 0, h => by have : j = 0 := by omega
               subst this; simp [sumN]
  | n + 1, h => by
    by_cases e : j = n + 1
    · subst e
      rw [sumN]
      have e1 : sumN (n + 1) (fun c => g (sk (n + 1) c)) = sumN (n + 1) g := sumN_congr fun c hc => by rw [sk_lt hc]
      rw [sumN] at e1
      exact congrArg (fun x => x + g (n + 1)) e1
    · have ih := sumN_skip g (j := j) (n := n) (by omega)
      have e1 : sumN (n + 1 + 1) g = sumN (n + 1) g + g (n + 1) := rfl
      rw [sumN, sk_ge (by omega), e1]
      omega
theorem abs_sum (f : Nat → Int) : ∀ n : Nat, (sumTo n f).natAbs ≤ sumN n fun j => (f j).natAbs
  | 0 => Nat.le_refl _
  | n + 1 => by
    rw [sumTo, sumN]
    exact Nat.le_trans (Int.natAbs_add_le _ _) (Nat.add_le_add_right (abs_sum f n) _)
theorem det_prod : ∀ (n : Nat) (A : Nat → Nat → Int) (f : Nat → Nat), (∀ i, i < n → sumN n (fun j => (A i j).natAbs) ≤ f i) → (det n A).natAbs ≤ prodN n f
  | 0, _, _, _ => Nat.le_refl _
  | n + 1, A, f, h => by
    rw [det]
    refine Nat.le_trans (abs_sum _ _) ?_
    have hp : ∀ j, j < n + 1 → (det n fun i c => A (i + 1) (sk j c)).natAbs ≤ prodN n fun i => f (i + 1) := fun j hj =>
      det_prod n _ _ fun i hi => by
        have h1 := h (i + 1) (by omega)
        have h2 := sumN_skip (fun c => (A (i + 1) c).natAbs) (j := j) (n := n) (by omega)
        have h3 : sumN n (fun c => (A (i + 1) (sk j c)).natAbs) ≤ sumN (n + 1) fun c => (A (i + 1) c).natAbs := by rw [← h2]; exact Nat.le_add_right _ _
        exact Nat.le_trans h3 h1
    have h4 : sumN (n + 1) (fun j => (sg j * A 0 j * det n fun i c => A (i + 1) (sk j c)).natAbs) ≤ sumN (n + 1) fun j => (prodN n fun i => f (i + 1)) * (A 0 j).natAbs := sumN_le fun j hj => by
      rw [Int.natAbs_mul, Int.natAbs_mul]
      have e1 : (sg j).natAbs = 1 := by unfold sg; split <;> rfl
      rw [e1, Nat.one_mul, Nat.mul_comm]
      exact Nat.mul_le_mul_right _ (hp j hj)
    refine Nat.le_trans h4 ?_
    rw [sumN_mul, prodN, Nat.mul_comm]
    exact Nat.mul_le_mul_right _ (h 0 (by omega))
def Inj (m : Nat) (σ : Nat → Nat) : Prop := ∀ i j, i < m → j < m → σ i = σ j → i = j
theorem hit_le {m : Nat} {σ : Nat → Nat} (x : Int) : ∀ {k : Nat}, k ≤ m → Inj m σ → sumN k (fun i => if x = (σ i : Int) then 1 else 0) ≤ 1
  | 0, _, _ => Nat.zero_le _
  | k + 1, hk, h => by
    rw [sumN]
    by_cases e : x = (σ k : Int)
    · rw [if_pos e]
      have : sumN k (fun i => if x = (σ i : Int) then 1 else 0) = sumN k (fun _ => 0) := sumN_congr fun i hi => if_neg fun q => by
        have := h i k (by omega) (by omega) (by omega)
        omega
      rw [this]
      have h0 : ∀ k, sumN k (fun _ => 0) = 0 := fun k => by induction k with
        | zero => rfl
        | succ k ih => rw [sumN, ih]
      rw [h0]; exact Nat.le_refl _
    · rw [if_neg e]; exact hit_le x (by omega) h
theorem ev_hits {m : Nat} {σ : Nat → Nat} (a : Arc) (h : Inj m σ) : sumN m (fun i => (ev a (σ i)).natAbs) ≤ 2 := by
  have h1 := hit_le (σ := σ) a.src (Nat.le_refl m) h
  have h2 := hit_le (σ := σ) a.dst (Nat.le_refl m) h
  have h3 : sumN m (fun i => (ev a (σ i)).natAbs) ≤ sumN m fun i => (if a.src = (σ i : Int) then 1 else 0) + (if a.dst = (σ i : Int) then 1 else 0) := sumN_le fun i _ => by
    unfold ev; split <;> split <;> decide
  rw [sumN_add] at h3
  omega
def rowW : List Arc → Nat → Nat
  | [], _ => 0
  | a :: r, i => 2 * (ev a i).natAbs + rowW r i
theorem row_le {m : Nat} {τ : Nat → Nat} (h : Inj m τ) : ∀ (es : List Arc) (i : Nat), sumN m (fun j => (lap es i (τ j)).natAbs) ≤ rowW es i
  | [], i => by
    have h0 : ∀ k, sumN k (fun _ => 0) = 0 := fun k => by induction k with
      | zero => rfl
      | succ k ih => rw [sumN, ih]
    exact Nat.le_of_eq (h0 m)
  | a :: r, i => by
    have h1 : sumN m (fun j => (lap (a :: r) i (τ j)).natAbs) ≤ sumN m fun j => (ev a i).natAbs * (ev a (τ j)).natAbs + (lap r i (τ j)).natAbs := sumN_le fun j _ => by
      rw [lap]
      exact Nat.le_trans (Int.natAbs_add_le _ _) (by rw [Int.natAbs_mul]; exact Nat.le_refl _)
    rw [sumN_add, sumN_mul] at h1
    have h2 := row_le h r i
    have h3 := Nat.mul_le_mul_left (ev a i).natAbs (ev_hits a h)
    rw [rowW]; omega
theorem rows_le {m : Nat} {σ : Nat → Nat} (h : Inj m σ) : ∀ es : List Arc, sumN m (fun i => rowW es (σ i)) ≤ 4 * es.length
  | [] => by
    have h0 : ∀ k, sumN k (fun _ => 0) = 0 := fun k => by induction k with
      | zero => rfl
      | succ k ih => rw [sumN, ih]
    exact Nat.le_of_eq (h0 m)
  | a :: r => by
    have e : sumN m (fun i => rowW (a :: r) (σ i)) = sumN m fun i => 2 * (ev a (σ i)).natAbs + rowW r (σ i) := rfl
    rw [e, sumN_add, sumN_mul, List.length_cons]
    have := ev_hits a h
    have := rows_le h r
    omega
theorem pow8_all : (List.range 121).all (fun x => decide (x ^ 8 ≤ 2 ^ (17 + x))) = true := by decide +kernel
theorem pow8 {x : Nat} (h : x ≤ 120) : x ^ 8 ≤ 2 ^ (17 + x) := by
  have := List.all_eq_true.1 pow8_all x (List.mem_range.2 (by omega))
  exact of_decide_eq_true this
theorem sumN_left (f : Nat → Nat) : ∀ n : Nat, sumN (n + 1) f = f 0 + sumN n (fun j => f (j + 1))
  | 0 => by simp [sumN]
  | n + 1 => by rw [sumN, sumN_left, sumN]; omega
theorem prod8 : ∀ (m : Nat) (f : Nat → Nat), (∀ i, i < m → f i ≤ 120) → (prodN m f) ^ 8 ≤ 2 ^ (17 * m + sumN m f)
  | 0, _, _ => Nat.le_refl _
  | m + 1, f, h => by
    rw [prodN, sumN_left, Nat.mul_pow]
    have h1 := pow8 (h 0 (by omega))
    have h2 := prod8 m (fun i => f (i + 1)) fun i hi => h (i + 1) (by omega)
    have h3 := Nat.mul_le_mul h1 h2
    rw [← Nat.pow_add] at h3
    rw [show 17 * (m + 1) + (f 0 + sumN m fun j => f (j + 1)) = 17 + f 0 + (17 * m + sumN m fun i => f (i + 1)) by omega]
    exact h3
theorem sumN_mem {f : Nat → Nat} {i : Nat} : ∀ {n : Nat}, i < n → f i ≤ sumN n f
  | 0, h => by omega
  | n + 1, h => by
    rw [sumN]
    by_cases e : i = n
    · subst e; omega
    · have := sumN_mem (f := f) (i := i) (n := n) (by omega); omega
theorem lap_minor {m : Nat} {es : List Arc} {σ τ : Nat → Nat} (hm : m ≤ 6) (he : es.length ≤ 30) (hσ : Inj m σ) (hτ : Inj m τ) :
    -2147483647 ≤ det m (fun i j => lap es (σ i) (τ j)) ∧ det m (fun i j => lap es (σ i) (τ j)) ≤ 2147483647 := by
  have h1 := det_prod m (fun i j => lap es (σ i) (τ j)) (fun i => rowW es (σ i)) fun i _ => row_le hτ es (σ i)
  have h2 := rows_le hσ es
  have h3 := prod8 m (fun i => rowW es (σ i)) fun i hi => by
    have := sumN_mem (f := fun i => rowW es (σ i)) hi; omega
  have h4 : 2 ^ (17 * m + sumN m fun i => rowW es (σ i)) ≤ 2 ^ 222 := Nat.pow_le_pow_right (by decide) (by omega)
  have h5 : prodN m (fun i => rowW es (σ i)) < 2147483648 := by
    rcases Nat.lt_or_ge (prodN m (fun i => rowW es (σ i))) 2147483648 with q | q
    · exact q
    · have h6 := Nat.pow_le_pow_left q 8
      have h7 := Nat.le_trans h6 (Nat.le_trans h3 h4)
      exact absurd h7 (by decide)
  omega
theorem lap_in : ∀ (es : List Arc) (i j : Nat), (lap es i j).natAbs ≤ es.length
  | [], _, _ => Nat.le_refl _
  | a :: r, i, j => by
    rw [lap, List.length_cons]
    have h1 := lap_in r i j
    have h2 : (ev a i * ev a j).natAbs ≤ 1 := by
      rw [Int.natAbs_mul]
      have e : ∀ k, (ev a k).natAbs ≤ 1 := fun k => by unfold ev; split <;> split <;> decide
      exact Nat.mul_le_mul (e i) (e j)
    have := Int.natAbs_add_le (ev a i * ev a j) (lap r i j)
    omega
end Go.Ab
