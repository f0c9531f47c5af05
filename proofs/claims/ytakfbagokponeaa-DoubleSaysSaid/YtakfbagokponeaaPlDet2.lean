/- Of determinants without a fraction on the way: the plain laws. -/
import Derived.Test.YtakfbagokponeaaPlDet
import Derived.Test.YtakfbagokponeaaPlB
namespace Go.Ab
/-! ### Bordered minors -/
def brd (B : Nat → Nat → Int) (k r c : Nat) : Nat → Nat → Int := fun i j => B (if i < k then i else r) (if j < k then j else c)
/-- The first k rows and columns, and one of each more. -/
def minr (B : Nat → Nat → Int) (k r c : Nat) : Int := det (k + 1) (brd B k r c)
theorem brd_lt {B : Nat → Nat → Int} {k r c i j : Nat} (hi : i < k) (hj : j < k) : brd B k r c i j = B i j := by unfold brd; rw [if_pos hi, if_pos hj]
theorem minr_self (B : Nat → Nat → Int) (k : Nat) : minr B k k k = det (k + 1) B := det_congr fun i j hi hj => by
  unfold brd
  have h1 : (if i < k then i else k) = i := by split <;> omega
  have h2 : (if j < k then j else k) = j := by split <;> omega
  rw [h1, h2]
def cofw (B : Nat → Nat → Int) (k r t : Nat) : Int := sg (t + k) * det k fun i j => brd B k r 0 (sk t i) j
theorem minr_lin (B : Nat → Nat → Int) (k r c : Nat) : minr B k r c = det k B * B r c + sumTo k fun t => cofw B k r t * B t c := by
  unfold minr
  rw [det_last, sumTo, Int.add_comm]
  congr 1
  · have h1 : brd B k r c k k = B r c := by unfold brd; rw [if_neg (by omega), if_neg (by omega)]
    have h2 : det k (fun i j => brd B k r c (sk k i) j) = det k B := det_congr fun i j hi hj => by rw [sk_lt hi, brd_lt hi hj]
    rw [h1, h2, sg_add, sg_sq]; grind
  · refine sum_congr fun t ht => ?_
    have h1 : brd B k r c t k = B t c := by unfold brd; rw [if_pos ht, if_neg (by omega)]
    have h2 : det k (fun i j => brd B k r c (sk t i) j) = det k (fun i j => brd B k r 0 (sk t i) j) := det_congr fun i j _ hj => by
      unfold brd; simp only [hj, if_true]
    rw [h1, h2]; unfold cofw; grind
theorem minr_low {B : Nat → Nat → Int} {k r c : Nat} (h : c < k) : minr B k r c = 0 := by
  refine det_eq_col (r := c) (s := k) (by omega) (by omega) (by omega) fun i _ => ?_
  unfold brd; rw [if_pos h, if_neg (show ¬ k < k by omega)]
/-- A matrix whose last two rows begin with noughts. -/
theorem det_block {k : Nat} {M : Nat → Nat → Int} (h1 : ∀ c, c < k → M k c = 0) (h2 : ∀ c, c < k → M (k + 1) c = 0) :
    det (k + 2) M = det k M * (M k k * M (k + 1) (k + 1) - M k (k + 1) * M (k + 1) k) := by
  have hm : ∀ s : Nat, (s = k ∨ s = k + 1) → det (k + 1) (fun r c => M r (sk s c)) = M k (2 * k + 1 - s) * det k M := fun s hs => by
    rw [det_lastRow, sum_one (c := k) (by omega) fun j hj hne => by rw [show M k (sk s j) = 0 from by rw [sk_lt (by omega)]; exact h1 j (by omega)]; grind]
    have e1 : sk s k = 2 * k + 1 - s := by
      rcases hs with rfl | rfl
      · rw [sk_ge (Nat.le_refl _)]; omega
      · rw [sk_lt (by omega)]; omega
    have e2 : det k (fun r c => M r (sk s (sk k c))) = det k M := det_congr fun i j _ hj => by rw [sk_lt hj, sk_lt (by omega)]
    rw [e1, e2, sg_add, sg_sq]; grind
  rw [det_lastRow, sum_two (c := k) (by omega) fun j hj hne hne2 => by rw [h2 j (by omega)]; grind]
  rw [hm k (.inl rfl), hm (k + 1) (.inr rfl), show 2 * k + 1 - k = k + 1 by omega, show 2 * k + 1 - (k + 1) = k by omega]
  have e1 : sg (k + (k + 1)) = -1 := by rw [sg_add, sg_succ]; have := sg_sq k; grind
  have e2 : sg (k + 1 + (k + 1)) = 1 := by rw [sg_add]; exact sg_sq _
  rw [e1, e2]
  grind
theorem sylvester {B : Nat → Nat → Int} {k i j : Nat} (hD : det k B ≠ 0) : minr B k i j * minr B k k k - minr B k i k * minr B k k j = det k B * minr B (k + 1) i j := by
  obtain ⟨M, hM⟩ : ∃ M, brd B (k + 1) i j = M := ⟨_, rfl⟩
  have hrow : ∀ a b, M a b = B (if a < k + 1 then a else i) (if b < k + 1 then b else j) := fun a b => by rw [← hM]; rfl
  obtain ⟨M1, h1⟩ : ∃ M1, setR M k (fun b => det k B * M k b + sumTo k fun t => cofw B k k t * M t b) = M1 := ⟨_, rfl⟩
  obtain ⟨M2, h2⟩ : ∃ M2, setR M1 (k + 1) (fun b => det k B * M1 (k + 1) b + sumTo k fun t => cofw B k i t * M1 t b) = M2 := ⟨_, rfl⟩
  have d1 : det (k + 2) M1 = det k B * det (k + 2) M := by rw [← h1]; exact det_comb (by omega) _ _ (by omega) fun t ht => by omega
  have d2 : det (k + 2) M2 = det k B * det (k + 2) M1 := by rw [← h2]; exact det_comb (by omega) _ _ (by omega) fun t ht => by omega
  have r1 : ∀ t b, t ≠ k → M1 t b = M t b := fun t b ht => by rw [← h1, setR_ne ht]
  have r2 : ∀ t b, t ≠ k + 1 → M2 t b = M1 t b := fun t b ht => by rw [← h2, setR_ne ht]
  have e1 : ∀ b, M2 k b = minr B k k (if b < k + 1 then b else j) := fun b => by
    rw [r2 k b (by omega), ← h1, setR_at, minr_lin, hrow, if_pos (by omega)]
    congr 1
    refine sum_congr fun t ht => ?_
    rw [hrow, if_pos (by omega)]
  have e2 : ∀ b, M2 (k + 1) b = minr B k i (if b < k + 1 then b else j) := fun b => by
    rw [← h2, setR_at, minr_lin, r1 (k + 1) b (by omega), hrow, if_neg (by omega)]
    congr 1
    refine sum_congr fun t ht => ?_
    rw [r1 t b (by omega), hrow, if_pos (by omega)]
  have hb := det_block (k := k) (M := M2) (fun c hc => by rw [e1, if_pos (by omega)]; exact minr_low hc) (fun c hc => by rw [e2, if_pos (by omega)]; exact minr_low hc)
  have hk : det k M2 = det k B := det_congr fun a b ha hb => by rw [r2 a b (by omega), r1 a b (by omega), hrow, if_pos (by omega), if_pos (by omega)]
  rw [d2, d1, hk, e1, e1, e2, e2, if_pos (by omega), if_neg (by omega)] at hb
  have hm : det (k + 2) M = minr B (k + 1) i j := by rw [← hM]; rfl
  rw [hm] at hb
  have := Int.eq_of_mul_eq_mul_left hD hb
  grind
/-! ### Bounds -/
theorem mul_bd {x y a b : Int} (hx : -a ≤ x ∧ x ≤ a) (hy : -b ≤ y ∧ y ≤ b) : -(a * b) ≤ x * y ∧ x * y ≤ a * b := by
  have ha : 0 ≤ a := by omega
  have hb : 0 ≤ b := by omega
  have h0 := Int.mul_nonneg ha hb
  rcases Int.le_total 0 x with p | p <;> rcases Int.le_total 0 y with q | q
  · have := Int.mul_le_mul hx.2 hy.2 q ha
    have := Int.mul_nonneg p q
    omega
  · have h1 := Int.mul_le_mul hx.2 (show -y ≤ b by omega) (by omega) ha
    have h2 := Int.mul_nonneg p (show 0 ≤ -y by omega)
    rw [Int.mul_neg] at h1 h2
    omega
  · have h1 := Int.mul_le_mul (show -x ≤ a by omega) hy.2 q ha
    have h2 := Int.mul_nonneg (show 0 ≤ -x by omega) q
    rw [Int.neg_mul] at h1 h2
    omega
  · have h1 := Int.mul_le_mul (show -x ≤ a by omega) (show -y ≤ b by omega) (by omega) ha
    have h2 := Int.mul_nonneg (show 0 ≤ -x by omega) (show 0 ≤ -y by omega)
    rw [Int.neg_mul_neg] at h1 h2
    omega
/-! ### The road without a fraction -/
def prm (A : Nat → Nat → Int) (σ : Nat → Nat) : Nat → Nat → Int := fun i j => A (σ i) j
structure Perm (n : Nat) (σ : Nat → Nat) : Prop where
  lt : ∀ i, i < n → σ i < n
  inj : ∀ i j, i < n → j < n → σ i = σ j → i = j
/-- The minors stay so small that their products do not leave the range. -/
def Small (n : Nat) (A : Nat → Nat → Int) : Prop := ∀ σ, Perm n σ → ∀ k r c, k + 1 < n → k ≤ r → r < n → k ≤ c → c < n → -2147483647 ≤ minr (prm A σ) k r c ∧ minr (prm A σ) k r c ≤ 2147483647
structure Bar (n : Nat) (A : Nat → Nat → Int) (L : List (List Int)) (k : Nat) (sign last : Int) (σ : Nat → Nat) : Prop where
  sq : Sq n L
  pm : Perm n σ
  lst : last = det k (prm A σ)
  ne : last ≠ 0
  sgn : sign * det n (prm A σ) = det n A
  s1 : sign = 1 ∨ sign = -1
  at_ : ∀ i j, k ≤ i → i < n → k ≤ j → j < n → at2 L i j = minr (prm A σ) k i j
  bd : ∀ i j, i < n → j < n → -9223372036854775807 ≤ at2 L i j ∧ at2 L i j ≤ 9223372036854775807
  lb : -9223372036854775807 ≤ last ∧ last ≤ 9223372036854775807
theorem minr_T (B : Nat → Nat → Int) (k r c : Nat) : minr (fun i j => B j i) k r c = minr B k c r := by
  unfold minr; rw [← det_T]; rfl
theorem Bar.none {n : Nat} {A : Nat → Nat → Int} {L : List (List Int)} {k : Nat} {sign last : Int} {σ : Nat → Nat} (h : Bar n A L k sign last σ) (hk : k < n) (hz : ∀ i, k ≤ i → i < n → at2 L i k = 0) : det n A = 0 := by
  obtain ⟨B, hB⟩ : ∃ B, prm A σ = B := ⟨_, rfl⟩
  have hl := h.lst; have hn := h.ne; have hs := h.sgn; have ha := h.at_
  rw [hB] at hl hs ha
  have h1 := det_comb (n := n) (A := fun i j => B j i) (r := k) hk (det k fun i j => B j i) (fun t => cofw (fun i j => B j i) k k t) (k := k) (by omega) fun t ht => by omega
  rw [det_T k B, det_T n B, ← hl, det_zero_row hk ?_] at h1
  · have : det n B = 0 := by
      rcases Int.mul_eq_zero.1 h1.symm with q | q
      · exact absurd q hn
      · exact q
    rw [← hs, this, Int.mul_zero]
  · intro j hj
    have h2 := minr_lin (fun i j => B j i) k k j
    rw [det_T k B, ← hl] at h2
    rw [setR_at, ← h2, minr_T]
    by_cases c : j < k
    · rw [← minr_T]; exact minr_low c
    · rw [← ha j k (by omega) hj (Nat.le_refl _) hk]; exact hz j (by omega) hj
/-- In the midst of a round. -/
structure Rnd (n : Nat) (B : Nat → Nat → Int) (L : List (List Int)) (k i0 j0 : Nat) : Prop where
  sq : Sq n L
  done : ∀ i j, k < i → i < n → k < j → j < n → (i < i0 ∨ (i = i0 ∧ j < j0)) → at2 L i j = minr B (k + 1) i j
  rest : ∀ i j, k ≤ i → i < n → k ≤ j → j < n → (i = k ∨ j = k ∨ i0 < i ∨ (i = i0 ∧ j0 ≤ j)) → at2 L i j = minr B k i j
  bd : ∀ i j, i < n → j < n → -9223372036854775807 ≤ at2 L i j ∧ at2 L i j ≤ 9223372036854775807
theorem Bar.round {n : Nat} {A : Nat → Nat → Int} {L : List (List Int)} {k : Nat} {sign last : Int} {σ : Nat → Nat} (h : Bar n A L k sign last σ) : Rnd n (prm A σ) L k (k + 1) (k + 1) :=
  ⟨h.sq, fun i j h1 h2 h3 h4 h5 => by omega, fun i j h1 h2 h3 h4 _ => h.at_ i j h1 h2 h3 h4, h.bd⟩
theorem Rnd.next {n : Nat} {B : Nat → Nat → Int} {L : List (List Int)} {k i0 j0 : Nat} (h : Rnd n B L k i0 j0) (hj : n ≤ j0) : Rnd n B L k (i0 + 1) (k + 1) :=
  ⟨h.sq, fun i j h1 h2 h3 h4 h5 => h.done i j h1 h2 h3 h4 (by omega), fun i j h1 h2 h3 h4 h5 => h.rest i j h1 h2 h3 h4 (by omega), h.bd⟩
theorem Bar.next {n : Nat} {A : Nat → Nat → Int} {L L2 : List (List Int)} {k i0 j0 : Nat} {sign last : Int} {σ : Nat → Nat} (h : Bar n A L k sign last σ) (hr : Rnd n (prm A σ) L2 k i0 j0) (hk : k < n) (hi : n ≤ i0) (hp : at2 L2 k k ≠ 0) :
    Bar n A L2 (k + 1) sign (at2 L2 k k) σ :=
  ⟨hr.sq, h.pm, by rw [hr.rest k k (by omega) hk (by omega) hk (.inl rfl), minr_self], hp, h.sgn, h.s1, fun i j h1 h2 h3 h4 => hr.done i j (by omega) h2 (by omega) h4 (by omega), hr.bd, hr.bd k k hk hk⟩
/-- What one step of a round does. -/
theorem Rnd.step {n : Nat} {A : Nat → Nat → Int} {L L2 : List (List Int)} {k i j : Nat} {sign last : Int} {σ : Nat → Nat} (h : Bar n A L k sign last σ) (hr : Rnd n (prm A σ) L2 k i j) (hs : Small n A) (hi : k < i) (hi2 : i < n) (hj : k < j) (hj2 : j < n) :
    let x := at2 L2 i j * at2 L2 k k - at2 L2 i k * at2 L2 k j
    (-4611686014132420609 ≤ at2 L2 i j * at2 L2 k k ∧ at2 L2 i j * at2 L2 k k ≤ 4611686014132420609) ∧ (-4611686014132420609 ≤ at2 L2 i k * at2 L2 k j ∧ at2 L2 i k * at2 L2 k j ≤ 4611686014132420609) ∧
      (-9223372036854775807 ≤ Int.tdiv x last ∧ Int.tdiv x last ≤ 9223372036854775807) ∧ Rnd n (prm A σ) (put2 L2 i j (Int.tdiv x last)) k i (j + 1) := by
  obtain ⟨B, hB⟩ : ∃ B, prm A σ = B := ⟨_, rfl⟩
  have hsm := fun r c => hs σ h.pm k r c
  have hl := h.lst; have hn := h.ne
  rw [hB] at hr hsm hl ⊢
  have hx := sylvester (B := B) (k := k) (i := i) (j := j) (by rw [← hl]; exact hn)
  have e1 := hr.rest i j (by omega) hi2 (by omega) hj2 (by omega)
  have e2 := hr.rest k k (by omega) (by omega) (by omega) (by omega) (by omega)
  have e3 := hr.rest i k (by omega) hi2 (by omega) (by omega) (by omega)
  have e4 := hr.rest k j (by omega) (by omega) (by omega) hj2 (by omega)
  rw [← e1, ← e2, ← e3, ← e4, ← hl] at hx
  have b1 := hsm i j (by omega) (by omega) hi2 (by omega) hj2
  have b2 := hsm k k (by omega) (by omega) (by omega) (by omega) (by omega)
  have b3 := hsm i k (by omega) (by omega) hi2 (by omega) (by omega)
  have b4 := hsm k j (by omega) (by omega) (by omega) (by omega) hj2
  rw [← e1] at b1; rw [← e2] at b2; rw [← e3] at b3; rw [← e4] at b4
  have p1 := mul_bd b1 b2
  have p2 := mul_bd b3 b4
  intro x
  have hq : Int.tdiv x last = minr B (k + 1) i j := by
    show Int.tdiv (at2 L2 i j * at2 L2 k k - at2 L2 i k * at2 L2 k j) last = _
    rw [hx, Int.mul_tdiv_cancel_left _ hn]
  have hxb : -9223372036854775807 ≤ x ∧ x ≤ 9223372036854775807 := by
    show -9223372036854775807 ≤ at2 L2 i j * at2 L2 k k - at2 L2 i k * at2 L2 k j ∧ at2 L2 i j * at2 L2 k k - at2 L2 i k * at2 L2 k j ≤ 9223372036854775807
    omega
  have hqb : -9223372036854775807 ≤ Int.tdiv x last ∧ Int.tdiv x last ≤ 9223372036854775807 := by
    have h1 := Int.natAbs_tdiv_le_natAbs x last
    omega
  refine ⟨p1, p2, hqb, hr.sq.put, fun a b h1 h2 h3 h4 h5 => ?_, fun a b h1 h2 h3 h4 h5 => ?_, fun a b h1 h2 => ?_⟩
  · by_cases c : a = i ∧ b = j
    · obtain ⟨rfl, rfl⟩ := c
      rw [at_put hr.sq hi2 hj2, if_pos ⟨rfl, rfl⟩, hq]
    · rw [at_put hr.sq hi2 hj2, if_neg c]
      exact hr.done a b h1 h2 h3 h4 (by omega)
  · rw [at_put hr.sq hi2 hj2, if_neg (by omega)]
    exact hr.rest a b h1 h2 h3 h4 (by omega)
  · by_cases c : a = i ∧ b = j
    · obtain ⟨rfl, rfl⟩ := c
      rw [at_put hr.sq hi2 hj2, if_pos ⟨rfl, rfl⟩]; exact hqb
    · rw [at_put hr.sq hi2 hj2, if_neg c]; exact hr.bd a b h1 h2
end Go.Ab
