/- Of determinants: the plain laws. -/
import Derived.Test.YtakfbagokponeaaPlA
namespace Go.Ab
/-! ### Sums -/
def sumTo : Nat → (Nat → Int) → Int
  | 0, _ => 0
  | n + 1, f => sumTo n f + f n
theorem sum_congr {f g : Nat → Int} : ∀ {n : Nat}, (∀ j, j < n → f j = g j) → sumTo n f = sumTo n g
  | 0, _ => rfl
  | n + 1, h => by rw [sumTo, sumTo, sum_congr (fun j hj => h j (by omega)), h n (by omega)]
theorem sum_zero {f : Nat → Int} : ∀ {n : Nat}, (∀ j, j < n → f j = 0) → sumTo n f = 0
  | 0, _ => rfl
  | n + 1, h => by rw [sumTo, sum_zero (fun j hj => h j (by omega)), h n (by omega)]; rfl
theorem sum_add (f g : Nat → Int) : ∀ n : Nat, sumTo n (fun j => f j + g j) = sumTo n f + sumTo n g
  | 0 => rfl
  | n + 1 => by rw [sumTo, sumTo, sumTo, sum_add]; omega
theorem sum_mul (a : Int) (f : Nat → Int) : ∀ n : Nat, sumTo n (fun j => a * f j) = a * sumTo n f
  | 0 => by simp [sumTo]
  | n + 1 => by rw [sumTo, sumTo, sum_mul, Int.mul_add]
theorem sum_left (f : Nat → Int) : ∀ n : Nat, sumTo (n + 1) f = f 0 + sumTo n (fun j => f (j + 1))
  | 0 => by simp [sumTo]
  | n + 1 => by rw [sumTo, sum_left, sumTo]; omega
theorem sum_comm (f : Nat → Nat → Int) (m : Nat) : ∀ n : Nat, sumTo n (fun j => sumTo m (fun i => f i j)) = sumTo m (fun i => sumTo n (fun j => f i j))
  | 0 => (sum_zero fun _ _ => rfl).symm
  | n + 1 => by
    rw [sumTo, sum_comm f m n, ← sum_add]
    exact sum_congr fun _ _ => rfl
theorem sum_one {f : Nat → Int} {c : Nat} : ∀ {n : Nat}, c < n → (∀ j, j < n → j ≠ c → f j = 0) → sumTo n f = f c
  | 0, h, _ => by omega
  | n + 1, h, hz => by
    rw [sumTo]
    by_cases e : c = n
    · subst e; rw [sum_zero fun j hj => hz j (by omega) (by omega)]; omega
    · rw [sum_one (c := c) (by omega) fun j hj hc => hz j (by omega) hc, hz n (by omega) (fun q => e q.symm)]; omega
theorem sum_two {f : Nat → Int} {c : Nat} : ∀ {n : Nat}, c + 1 < n → (∀ j, j < n → j ≠ c → j ≠ c + 1 → f j = 0) → sumTo n f = f c + f (c + 1)
  | 0, h, _ => by omega
  | n + 1, h, hz => by
    rw [sumTo]
    by_cases e : c + 1 = n
    · subst e; rw [sum_one (c := c) (by omega) fun j hj hc => hz j (by omega) hc (by omega)]
    · rw [sum_two (c := c) (by omega) fun j hj hc hd => hz j (by omega) hc hd, hz n (by omega) (by omega) (by omega)]; omega
/-! ### Determinants -/
def sg (j : Nat) : Int := if j % 2 = 0 then 1 else -1
theorem sg_succ (j : Nat) : sg (j + 1) = -sg j := by unfold sg; split <;> split <;> omega
theorem sg_sq (j : Nat) : sg j * sg j = 1 := by unfold sg; split <;> rfl
theorem sg_add (i j : Nat) : sg (i + j) = sg i * sg j := by
  unfold sg
  by_cases a : i % 2 = 0 <;> by_cases b : j % 2 = 0 <;> simp only [a, b, if_true, if_false] <;> (first | rw [if_pos (by omega)] | rw [if_neg (by omega)]) <;> rfl
/-- The place behind one that is left out. -/
def sk (j c : Nat) : Nat := if c < j then c else c + 1
theorem sk_lt {j c : Nat} (h : c < j) : sk j c = c := if_pos h
theorem sk_ge {j c : Nat} (h : j ≤ c) : sk j c = c + 1 := if_neg (by omega)
theorem sk_ss (j c : Nat) : sk (j + 1) (c + 1) = sk j c + 1 := by unfold sk; split <;> split <;> omega
theorem sk_s0 (j : Nat) : sk (j + 1) 0 = 0 := rfl
theorem sk_bound {j c n : Nat} (h : c < n) : sk j c < n + 1 := by unfold sk; split <;> omega
def det : Nat → (Nat → Nat → Int) → Int
  | 0, _ => 1
  | n + 1, A => sumTo (n + 1) fun j => sg j * A 0 j * det n fun i c => A (i + 1) (sk j c)
theorem det_congr : ∀ {n : Nat} {A B : Nat → Nat → Int}, (∀ i j, i < n → j < n → A i j = B i j) → det n A = det n B
  | 0, _, _, _ => rfl
  | n + 1, A, B, h => by
    unfold det
    refine sum_congr fun j hj => ?_
    rw [h 0 j (by omega) hj, det_congr fun i c hi hc => h (i + 1) (sk j c) (by omega) (sk_bound hc)]
theorem det_col : ∀ (n : Nat) (A : Nat → Nat → Int), det (n + 1) A = sumTo (n + 1) fun i => sg i * A i 0 * det n fun r c => A (sk i r) (c + 1)
  | 0, A => rfl
  | n + 1, A => by
    have h1 : det (n + 2) A = sg 0 * A 0 0 * det (n + 1) (fun i c => A (i + 1) (c + 1)) +
        sumTo (n + 1) (fun j => sumTo (n + 1) fun i => -(sg i * sg j * A 0 (j + 1) * A (i + 1) 0 * det n fun r c => A (sk i r + 1) (sk j c + 1))) := by
      rw [det, sum_left]
      congr 1
      refine sum_congr fun j hj => ?_
      rw [det_col n, ← sum_mul]
      refine sum_congr fun i hi => ?_
      rw [sk_s0, sg_succ, det_congr (A := fun r c => A (sk i r + 1) (sk (j + 1) (c + 1))) (B := fun r c => A (sk i r + 1) (sk j c + 1)) fun r c _ _ => by rw [sk_ss]]
      grind
    refine h1.trans (Eq.trans ?_ (sum_left _ _).symm)
    rw [sum_comm]
    refine congrArg (fun x => sg 0 * A 0 0 * det (n + 1) (fun i c => A (i + 1) (c + 1)) + x) (sum_congr fun i hi => ?_)
    rw [det, ← sum_mul]
    refine sum_congr fun j hj => ?_
    rw [sk_s0, sg_succ, det_congr (A := fun r c => A (sk (i + 1) (r + 1)) (sk j c + 1)) (B := fun r c => A (sk i r + 1) (sk j c + 1)) fun r c _ _ => by rw [sk_ss]]
    grind
theorem det_T : ∀ (n : Nat) (A : Nat → Nat → Int), det n (fun i j => A j i) = det n A
  | 0, _ => rfl
  | n + 1, A => by
    rw [det_col n A, det]
    refine sum_congr fun j _ => ?_
    rw [det_T n fun r c => A (sk j r) (c + 1)]
theorem det_last : ∀ (n : Nat) (A : Nat → Nat → Int), det (n + 1) A = sumTo (n + 1) fun i => sg (i + n) * A i n * det n fun r c => A (sk i r) c
  | 0, A => rfl
  | n + 1, A => by
    have h1 : det (n + 2) A = sumTo (n + 1) (fun j => sumTo (n + 1) fun i => sg (i + n) * sg j * A 0 j * A (i + 1) (n + 1) * det n fun r c => A (sk i r + 1) (sk j c)) + sg (n + 1) * A 0 (n + 1) * det (n + 1) (fun i c => A (i + 1) c) := by
      rw [det, sumTo]
      congr 1
      · refine sum_congr fun j hj => ?_
        rw [det_last n, ← sum_mul]
        refine sum_congr fun i hi => ?_
        rw [sk_ge (show j ≤ n by omega)]
        grind
      · rw [det_congr (A := fun i c => A (i + 1) (sk (n + 1) c)) (B := fun i c => A (i + 1) c) fun i c _ hc => by rw [sk_lt hc]]
    refine h1.trans (Eq.trans ?_ (sum_left _ _).symm)
    rw [sum_comm, Int.add_comm]
    simp only [Nat.zero_add]
    refine congrArg (fun x => sg (n + 1) * A 0 (n + 1) * det (n + 1) (fun i c => A (i + 1) c) + x) (sum_congr fun i hi => ?_)
    rw [det, ← sum_mul]
    refine sum_congr fun j hj => ?_
    rw [sk_s0, det_congr (A := fun r c => A (sk (i + 1) (r + 1)) (sk j c)) (B := fun r c => A (sk i r + 1) (sk j c)) fun r c _ _ => by rw [sk_ss],
      show i + 1 + (n + 1) = i + n + 1 + 1 by omega, sg_succ, sg_succ]
    grind
theorem det_lastRow (n : Nat) (A : Nat → Nat → Int) : det (n + 1) A = sumTo (n + 1) fun j => sg (j + n) * A n j * det n fun r c => A r (sk j c) := by
  rw [← det_T, det_last]
  refine sum_congr fun j _ => ?_
  rw [← det_T n fun r c => A r (sk j c)]
/-! ### Rows -/
def setR (A : Nat → Nat → Int) (r : Nat) (v : Nat → Int) : Nat → Nat → Int := fun i j => if i = r then v j else A i j
theorem setR_at (A : Nat → Nat → Int) (r : Nat) (v : Nat → Int) (j : Nat) : setR A r v r j = v j := if_pos rfl
theorem setR_ne {A : Nat → Nat → Int} {r i : Nat} (h : i ≠ r) (v : Nat → Int) (j : Nat) : setR A r v i j = A i j := if_neg h
theorem setR_self (A : Nat → Nat → Int) (r : Nat) : setR A r (A r) = A := by
  funext i j
  by_cases h : i = r
  · subst h; exact setR_at _ _ _ _
  · exact setR_ne h _ _
theorem det_lin : ∀ {n : Nat} {A : Nat → Nat → Int} {r : Nat} (a b : Int) (u v : Nat → Int), r < n → det n (setR A r fun j => a * u j + b * v j) = a * det n (setR A r u) + b * det n (setR A r v)
  | 0, _, _, _, _, _, _, h => by omega
  | n + 1, A, 0, a, b, u, v, _ => by
    have hm : ∀ w : Nat → Int, det (n + 1) (setR A 0 w) = sumTo (n + 1) fun j => w j * (sg j * det n fun i c => A (i + 1) (sk j c)) := fun w => by
      rw [det]
      refine sum_congr fun j _ => ?_
      rw [setR_at, det_congr (A := fun i c => setR A 0 w (i + 1) (sk j c)) (B := fun i c => A (i + 1) (sk j c)) fun i c _ _ => setR_ne (by omega) _ _]
      grind
    rw [hm, hm, hm, ← sum_mul, ← sum_mul, ← sum_add]
    refine sum_congr fun j _ => ?_
    grind
  | n + 1, A, r + 1, a, b, u, v, h => by
    have hm : ∀ w : Nat → Int, det (n + 1) (setR A (r + 1) w) = sumTo (n + 1) fun j => sg j * A 0 j * det n (setR (fun i c => A (i + 1) (sk j c)) r fun c => w (sk j c)) := fun w => by
      rw [det]
      refine sum_congr fun j _ => ?_
      rw [setR_ne (by omega)]
      congr 1
      refine det_congr fun i c _ _ => ?_
      by_cases e : i = r
      · subst e; rw [setR_at, setR_at]
      · rw [setR_ne (by omega), setR_ne e]
    rw [hm, hm, hm, ← sum_mul, ← sum_mul, ← sum_add]
    refine sum_congr fun j _ => ?_
    rw [det_lin a b _ _ (by omega)]
    grind
theorem det_adj_col : ∀ {n : Nat} {A : Nat → Nat → Int} {c : Nat}, c + 1 < n → (∀ i, i < n → A i c = A i (c + 1)) → det n A = 0
  | 0, _, _, h, _ => by omega
  | n + 1, A, c, h, he => by
    rw [det, sum_two h ?_]
    · have : det n (fun i k => A (i + 1) (sk c k)) = det n fun i k => A (i + 1) (sk (c + 1) k) := by
        refine det_congr fun i k hi hk => ?_
        rcases Nat.lt_trichotomy k c with q | q | q
        · rw [sk_lt q, sk_lt (by omega)]
        · subst q; rw [sk_ge (Nat.le_refl _), sk_lt (by omega)]; exact (he (i + 1) (by omega)).symm
        · rw [sk_ge (by omega), sk_ge (by omega)]
      rw [this, sg_succ, he 0 (by omega)]
      grind
    · intro j hj h1 h2
      have : det n (fun i k => A (i + 1) (sk j k)) = 0 := by
        rcases Nat.lt_or_ge j c with q | q
        · refine det_adj_col (c := c - 1) (by omega) fun i hi => ?_
          rw [sk_ge (by omega), sk_ge (by omega), show c - 1 + 1 = c by omega]
          exact he (i + 1) (by omega)
        · refine det_adj_col (c := c) (by omega) fun i hi => ?_
          rw [sk_lt (by omega), sk_lt (by omega)]
          exact he (i + 1) (by omega)
      rw [this, Int.mul_zero]
theorem det_adj {n : Nat} {A : Nat → Nat → Int} {r : Nat} (h : r + 1 < n) (he : ∀ j, j < n → A r j = A (r + 1) j) : det n A = 0 := by
  rw [← det_T]; exact det_adj_col h he
/-- Two rows that are alike, wherever they are; and two rows change places. -/
theorem det_two {n : Nat} {A : Nat → Nat → Int} {r s : Nat} (hr : r < n) (hs : s < n) (hrs : r ≠ s) (h0 : ∀ v : Nat → Int, det n (setR (setR A r v) s v) = 0) :
    det n (setR (setR A r (A s)) s (A r)) = -det n A := by
  have h1 := h0 fun j => 1 * A r j + 1 * A s j
  rw [det_lin 1 1 _ _ hs] at h1
  have hc : ∀ u v : Nat → Int, setR (setR A r u) s v = setR (setR A s v) r u := fun u v => by
    funext i j
    by_cases e : i = s
    · subst e; rw [setR_at, setR_ne (fun q => hrs q.symm), setR_at]
    · rw [setR_ne e]
      by_cases e2 : i = r
      · subst e2; rw [setR_at, setR_at]
      · rw [setR_ne e2, setR_ne e2, setR_ne e]
  rw [hc, hc, det_lin 1 1 _ _ hr, det_lin 1 1 _ _ hr, ← hc, ← hc, ← hc, ← hc, h0, h0] at h1
  have h2 : setR (setR A r (A r)) s (A s) = A := by rw [setR_self, setR_self]
  rw [h2] at h1
  omega
theorem det_same : ∀ (d : Nat) {n : Nat} {A : Nat → Nat → Int} {r : Nat}, r + d + 1 < n → (∀ j, j < n → A r j = A (r + d + 1) j) → det n A = 0
  | 0, n, A, r, h, he => det_adj h he
  | d + 1, n, A, r, h, he => by
    have h1 := det_two (n := n) (A := A) (r := r + d + 1) (s := r + d + 1 + 1) (by omega) (by omega) (by omega) fun v => det_adj (r := r + d + 1) (by omega) fun j _ => by
      rw [setR_ne (by omega), setR_at, setR_at]
    have h2 : det n (setR (setR A (r + d + 1) (A (r + d + 1 + 1))) (r + d + 1 + 1) (A (r + d + 1))) = 0 := by
      refine det_same d (r := r) (by omega) fun j hj => ?_
      rw [setR_ne (by omega), setR_ne (by omega), setR_ne (by omega), setR_at]
      exact he j hj
    omega
theorem det_eq {n : Nat} {A : Nat → Nat → Int} {r s : Nat} (hr : r < n) (hs : s < n) (hrs : r ≠ s) (he : ∀ j, j < n → A r j = A s j) : det n A = 0 := by
  rcases Nat.lt_or_ge r s with q | q
  · exact det_same (s - r - 1) (r := r) (by omega) (by rw [show r + (s - r - 1) + 1 = s by omega]; exact he)
  · exact det_same (r - s - 1) (r := s) (by omega) (by rw [show s + (r - s - 1) + 1 = r by omega]; exact fun j hj => (he j hj).symm)
theorem det_eq_col {n : Nat} {A : Nat → Nat → Int} {r s : Nat} (hr : r < n) (hs : s < n) (hrs : r ≠ s) (he : ∀ i, i < n → A i r = A i s) : det n A = 0 := by
  rw [← det_T]; exact det_eq hr hs hrs he
theorem det_zero_row {n : Nat} {A : Nat → Nat → Int} {r : Nat} (hr : r < n) (h : ∀ j, j < n → A r j = 0) : det n A = 0 := by
  have h1 := det_lin (n := n) (A := A) (r := r) 0 0 (A r) (A r) hr
  rw [setR_self, Int.zero_mul, Int.zero_add] at h1
  rw [← h1]
  refine det_congr fun i j _ hj => ?_
  by_cases e : i = r
  · subst e; rw [setR_at, h j hj]; omega
  · rw [setR_ne e]
/-- A row gets times of other rows on top: 'a' times itself, and a sum of times of the first 'k' rows, which it isn't one of. -/
theorem det_comb {n : Nat} {A : Nat → Nat → Int} {r : Nat} (hr : r < n) (a : Int) (w : Nat → Int) : ∀ {k : Nat}, k ≤ n → (∀ t, t < k → t ≠ r) → det n (setR A r fun j => a * A r j + sumTo k fun t => w t * A t j) = a * det n A
  | 0, _, _ => by
    have h1 := det_lin (n := n) (A := A) (r := r) a 0 (A r) (A r) hr
    rw [setR_self, Int.zero_mul, Int.add_zero] at h1
    rw [← h1]
    congr 2
    funext j
    simp only [sumTo]; omega
  | k + 1, hk, ht => by
    have ih := det_comb (A := A) hr a w (k := k) (by omega) fun t h => ht t (by omega)
    have h1 := det_lin (n := n) (A := A) (r := r) 1 (w k) (fun j => a * A r j + sumTo k fun t => w t * A t j) (A k) hr
    rw [ih, det_eq (A := setR A r (A k)) (r := k) (s := r) (by omega) hr (ht k (by omega)) (fun j _ => by rw [setR_at, setR_ne (ht k (by omega))])] at h1
    rw [show (a * det n A) = 1 * (a * det n A) + w k * 0 by omega, ← h1]
    congr 2
    funext j
    simp only [sumTo]; omega
end Go.Ab
