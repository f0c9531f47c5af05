/- Of how many stand at each node (Erdoes, Gallai; Havel, Hakimi): the plain laws. -/
import Derived.Test.YtglkldhjffnhhaaPlHall
namespace Go.Ab
/-- What a set of nodes takes at the most, less what it asks; V: who is there, k: how many are in the set. -/
def egAt (d : Nat → Int) (V S : Nat → Bool) (k : Int) (u : Nat) : Int := if V u = true then (if S u = true then -d u else min (d u) k) else 0
def egG (n : Nat) (d : Nat → Int) (V S : Nat → Bool) (k : Int) : Int := k * (k - 1) + sumTo n (egAt d V S k)
def cardV (n : Nat) (V S : Nat → Bool) : Int := card n fun u => V u && S u
def egF (n : Nat) (d : Nat → Int) (V S : Nat → Bool) : Int := egG n d V S (cardV n V S)
def EG (n : Nat) (d : Nat → Int) (V : Nat → Bool) : Prop := ∀ S, 0 ≤ egF n d V S
def offV (V : Nat → Bool) (v : Nat) : Nat → Bool := fun u => V u && !decide (u = v)
def onV (S : Nat → Bool) (v : Nat) : Nat → Bool := fun u => S u || decide (u = v)
theorem sum_one_if {n k : Nat} (x : Int) (hk : k < n) : sumTo n (fun j => if j = k then x else 0) = x := by
  have h1 := sum_one (f := fun j => if j = k then x else 0) (n := n) hk (fun j _ hj => if_neg hj)
  rw [if_pos rfl] at h1
  exact h1
theorem sum_sub (f g : Nat → Int) (n : Nat) : sumTo n (fun j => f j - g j) = sumTo n f - sumTo n g := by
  have := sum_add (fun j => f j - g j) g n
  rw [sum_congr (g := f) (fun j _ => by omega)] at this
  omega
theorem cardV_nn (n : Nat) (V S : Nat → Bool) : 0 ≤ cardV n V S := sum_nonneg fun _ _ => (b2i_nn _).1
theorem cardV_on {n : Nat} {V S : Nat → Bool} {v : Nat} (hv : v < n) (hV : V v = true) (hS : S v = false) : cardV n V (onV S v) = cardV n V S + 1 := by
  have h1 := sum_one_if (n := n) (1 : Int) hv
  unfold cardV card
  rw [← h1, ← sum_add]
  refine sum_congr fun u hu => ?_
  by_cases e : u = v
  · subst e; simp [onV, hV, hS, b2i]
  · simp [onV, e]
theorem cardV_off {n : Nat} {V S : Nat → Bool} {v : Nat} (hv : v < n) (hV : V v = true) (hS : S v = true) : cardV n V S = cardV n V (offV S v) + 1 := by
  have h1 := sum_one_if (n := n) (1 : Int) hv
  unfold cardV card
  rw [← h1, ← sum_add]
  refine sum_congr fun u hu => ?_
  by_cases e : u = v
  · subst e; simp [offV, hV, hS, b2i]
  · simp [offV, e]
/-- One node is gone; a set N of those that are left has one less each. -/
structure Laid (n : Nat) (d : Nat → Int) (V N : Nat → Bool) (v : Nat) : Prop where
  vn : v < n
  vV : V v = true
  sub : ∀ u, u < n → N u = true → offV V v u = true
  size : cardV n (offV V v) N = d v
  top : ∀ u w, u < n → w < n → N u = true → offV V v w = true → N w = false → d w ≤ d u
def lessN (d : Nat → Int) (N : Nat → Bool) : Nat → Int := fun u => d u - b2i (N u)
theorem egF_congr {n : Nat} {d : Nat → Int} {V S T : Nat → Bool} (h : ∀ u, u < n → V u = true → S u = T u) : egF n d V S = egF n d V T := by
  have h1 : cardV n V S = cardV n V T := sum_congr fun u hu => by
    dsimp only
    cases hv : V u
    · rfl
    · rw [h u hu hv]
  unfold egF egG
  rw [h1]
  congr 1
  refine sum_congr fun u hu => ?_
  unfold egAt
  cases hv : V u
  · rfl
  · rw [h u hu hv]
theorem off_v {n : Nat} {V S : Nat → Bool} {v : Nat} (hS : S v = false) : cardV n (offV V v) S = cardV n V S := sum_congr fun u _ => by
  by_cases e : u = v
  · subst e; simp [hS]
  · simp [offV, e]
/-- what the set loses -/
def lossA (d : Nat → Int) (V N S : Nat → Bool) (k : Int) (u : Nat) : Int := if V u = true then (if S u = true then b2i (N u) else if N u = true ∧ d u ≤ k then -1 else 0) else 0
def lossB (d : Nat → Int) (V N S : Nat → Bool) (k : Int) (u : Nat) : Int := if V u = true then (if S u = true then b2i (N u) else if N u = true ∨ k < d u then -1 else 0) else 0
theorem eg_a {n : Nat} {d : Nat → Int} {V N S : Nat → Bool} {v : Nat} (h : Laid n d V N v) (hS : S v = false) :
    egF n (lessN d N) (offV V v) S = egF n d V S - min (d v) (cardV n V S) + sumTo n (lossA d (offV V v) N S (cardV n V S)) := by
  unfold egF egG
  rw [off_v hS]
  generalize cardV n V S = k
  have h1 := sum_one_if (n := n) (min (d v) k) h.vn
  have h2 : sumTo n (egAt (lessN d N) (offV V v) S k) = sumTo n (egAt d V S k) - min (d v) k + sumTo n (lossA d (offV V v) N S k) := by
    conv => rhs; rw [← h1]
    rw [← sum_sub, ← sum_add]
    refine sum_congr fun u hu => ?_
    unfold egAt lossA lessN
    by_cases e : u = v
    · subst e; simp [offV, h.vV, hS]
    · have : offV V v u = V u := by simp [offV, e]
      rw [this, if_neg e]
      cases V u <;> cases S u <;> cases N u <;> simp [b2i] <;> omega
  omega
theorem eg_b {n : Nat} {d : Nat → Int} {V N S : Nat → Bool} {v : Nat} (h : Laid n d V N v) (hS : S v = false) :
    egF n (lessN d N) (offV V v) S = egF n d V (onV S v) - 2 * cardV n V S + d v + sumTo n (lossB d (offV V v) N S (cardV n V S)) := by
  unfold egF egG
  rw [off_v hS, cardV_on h.vn h.vV hS]
  generalize cardV n V S = k
  have h1 := sum_one_if (n := n) (d v) h.vn
  have h2 : sumTo n (egAt (lessN d N) (offV V v) S k) = sumTo n (egAt d V (onV S v) (k + 1)) + d v + sumTo n (lossB d (offV V v) N S k) := by
    conv => rhs; rw [← h1]
    rw [← sum_add, ← sum_add]
    refine sum_congr fun u hu => ?_
    unfold egAt lossB lessN
    by_cases e : u = v
    · subst e; simp [offV, onV, h.vV] <;> omega
    · have e1 : offV V v u = V u := by simp [offV, e]
      have e2 : onV S v u = S u := by simp [onV, e]
      rw [e1, e2, if_neg e]
      cases V u <;> cases S u <;> cases N u <;> simp [b2i] <;> omega
  have h3 : (k + 1) * (k + 1 - 1) = k * (k - 1) + 2 * k := by
    rw [show k + 1 - 1 = k from by omega, Int.add_mul, Int.mul_sub]; omega
  omega
/-- a node more in the set, or one less -/
def moreC (d : Nat → Int) (V S : Nat → Bool) (k : Int) (u : Nat) : Int := if V u = true ∧ S u = false ∧ k ≤ d u then 1 else 0
theorem more_nn (d : Nat → Int) (V S : Nat → Bool) (k : Int) (n : Nat) : 0 ≤ sumTo n (moreC d V S k) := sum_nonneg fun u _ => by unfold moreC; split <;> decide
theorem eg_on {n : Nat} {d : Nat → Int} {V S : Nat → Bool} {v : Nat} (hv : v < n) (hV : V v = true) (hS : S v = false) :
    egF n d V (onV S v) = egF n d V S + 2 * cardV n V S - d v - min (d v) (cardV n V S) + sumTo n (moreC d V (onV S v) (cardV n V S + 1)) := by
  unfold egF egG
  rw [cardV_on hv hV hS]
  generalize cardV n V S = k
  have h1 := sum_one_if (n := n) (-d v - min (d v) k) hv
  have h2 : sumTo n (egAt d V (onV S v) (k + 1)) = sumTo n (egAt d V S k) + (-d v - min (d v) k) + sumTo n (moreC d V (onV S v) (k + 1)) := by
    conv => rhs; rw [← h1]
    rw [← sum_add, ← sum_add]
    refine sum_congr fun u hu => ?_
    unfold egAt moreC
    by_cases e : u = v
    · subst e; simp [onV, hV, hS]; omega
    · have e2 : onV S v u = S u := by simp [onV, e]
      rw [e2, if_neg e]
      cases V u <;> cases S u <;> simp
      split <;> omega
  have h3 : (k + 1) * (k + 1 - 1) = k * (k - 1) + 2 * k := by
    rw [show k + 1 - 1 = k from by omega, Int.add_mul, Int.mul_sub]; omega
  omega
theorem more_pos {n : Nat} {d : Nat → Int} {V S : Nat → Bool} {k : Int} {u : Nat} (hu : u < n) (hV : V u = true) (hS : S u = false) (hd : k ≤ d u) : 1 ≤ sumTo n (moreC d V S k) := by
  have := sum_mem_le (f := moreC d V S k) (n := n) (fun u _ => by unfold moreC; split <;> decide) hu
  unfold moreC at this
  rw [if_pos ⟨hV, hS, hd⟩] at this
  exact this
theorem on_off {S : Nat → Bool} {v : Nat} (hS : S v = true) : onV (offV S v) v = S := by
  funext u
  by_cases e : u = v
  · subst e; simp [onV, offV, hS]
  · simp [onV, offV, e]
theorem off_at (S : Nat → Bool) (v : Nat) : offV S v v = false := by simp [offV]
theorem off_ne {S : Nat → Bool} {v u : Nat} (h : u ≠ v) : offV S v u = S u := by simp [offV, h]
theorem on_ne {S : Nat → Bool} {v u : Nat} (h : u ≠ v) : onV S v u = S u := by simp [onV, h]
theorem parity_sum {f : Nat → Int} {g : Nat → Int} : ∀ {n : Nat}, (∀ j, j < n → (f j - g j) % 2 = 0) → (sumTo n f - sumTo n g) % 2 = 0
  | 0, _ => rfl
  | n + 1, h => by
    have h1 := parity_sum (n := n) (fun j hj => h j (by omega))
    have h2 := h n (by omega)
    simp only [sumTo]; omega
theorem even_kk (k : Int) : (k * (k - 1)) % 2 = 0 := by
  rcases Int.emod_two_eq k with h | h
  · rw [Int.mul_emod, h]; simp
  · rw [Int.mul_emod, show (k - 1) % 2 = 0 by omega]; simp
def sumV (n : Nat) (d : Nat → Int) (V : Nat → Bool) : Int := sumTo n fun u => if V u = true then d u else 0
theorem laid_sum {n : Nat} {d : Nat → Int} {V N : Nat → Bool} {v : Nat} (h : Laid n d V N v) : sumV n (lessN d N) (offV V v) = sumV n d V - 2 * d v := by
  have h1 := sum_one_if (n := n) (d v) h.vn
  have h2 := h.size
  have h3 : sumV n (lessN d N) (offV V v) = sumV n d V - d v - cardV n (offV V v) N := by
    conv => rhs; rw [← h1]
    unfold sumV cardV card
    rw [← sum_sub, ← sum_sub]
    refine sum_congr fun u hu => ?_
    by_cases e : u = v
    · subst e; simp [offV, h.vV, b2i]
    · have e1 : offV V v u = V u := off_ne e
      simp only [e1, if_neg e]
      unfold lessN
      cases V u <;> cases N u <;> simp [b2i]
  omega
def farV (n : Nat) (V N S : Nat → Bool) : Int := cardV n V (fun u => S u && !N u) + cardV n V (fun u => N u && !S u)
theorem far_off {n : Nat} {V N S : Nat → Bool} {s : Nat} (hs : s < n) (hV : V s = true) (hS : S s = true) (hN : N s = false) : farV n V N (offV S s) + 1 = farV n V N S := by
  have h1 := sum_one_if (n := n) (1 : Int) hs
  unfold farV cardV card
  rw [← h1, ← sum_add, ← sum_add, ← sum_add]
  refine sum_congr fun u hu => ?_
  by_cases e : u = s
  · subst e; simp [offV, hV, hS, hN, b2i]
  · simp only [off_ne e, if_neg e]; omega
theorem far_on {n : Nat} {V N S : Nat → Bool} {s : Nat} (hs : s < n) (hV : V s = true) (hS : S s = false) (hN : N s = true) : farV n V N (onV S s) + 1 = farV n V N S := by
  have h1 := sum_one_if (n := n) (1 : Int) hs
  unfold farV cardV card
  rw [← h1, ← sum_add, ← sum_add, ← sum_add]
  refine sum_congr fun u hu => ?_
  by_cases e : u = s
  · subst e; simp [onV, hV, hS, hN, b2i]
  · simp only [on_ne e, if_neg e]; omega
theorem more_on {n : Nat} {d : Nat → Int} {V S : Nat → Bool} {k : Int} {s : Nat} (hs : s < n) (hV : V s = true) (hS : S s = false) (hd : k ≤ d s) : sumTo n (moreC d V (onV S s) (k + 1)) + 1 ≤ sumTo n (moreC d V S k) := by
  have h1 := sum_one_if (n := n) (1 : Int) hs
  rw [← h1, ← sum_add]
  refine sum_le fun u hu => ?_
  unfold moreC
  by_cases e : u = s
  · subst e; simp [onV, hV, hS, hd]
  · rw [on_ne e, if_neg e]
    cases V u <;> cases S u <;> simp
    split <;> split <;> omega
theorem eg_p0 {n : Nat} {d : Nat → Int} {V N S : Nat → Bool} {v : Nat} (h : Laid n d V N v) (hE : EG n d V) (hS : S v = false) (hp : ∀ u, u < n → offV V v u = true → S u = true → N u = true) : 0 ≤ egF n (lessN d N) (offV V v) S := by
  rcases Classical.em (∃ u, u < n ∧ N u = true ∧ S u = false ∧ d u ≤ cardV n V S) with ⟨u, u1, u2, u3, u4⟩ | hno
  · have h1 := eg_b h hS
    have h2 := hE (onV S v)
    have h3 : sumTo n (lossB d (offV V v) N S (cardV n V S)) + cardV n (offV V v) N = 2 * cardV n (offV V v) S := by
      clear h1
      revert u4
      generalize cardV n V S = k
      intro u4
      unfold cardV card
      rw [← sum_add, ← sum_mul]
      refine sum_congr fun w hw => ?_
      dsimp only
      have hw1 := hp w hw
      have hw2 := h.top u w u1 hw u2
      unfold lossB
      cases hVw : offV V v w
      · simp [b2i]
      · have hw1 := hw1 hVw
        have hw2 := hw2 hVw
        cases hSw : S w
        · cases hNw : N w
          · have := hw2 hNw
            simp [b2i]; omega
          · simp [b2i]
        · rw [hw1 hSw]; simp [b2i]
    have h4 := off_v (n := n) (V := V) hS
    have h5 := h.size
    omega
  · have h1 := eg_a h hS
    have h2 := hE S
    have h3 : sumTo n (lossA d (offV V v) N S (cardV n V S)) = cardV n (offV V v) S := by
      have hno' : ∀ w, w < n → N w = true → S w = false → ¬ d w ≤ cardV n V S := fun w w1 w2 w3 w4 => hno ⟨w, w1, w2, w3, w4⟩
      revert hno'
      generalize cardV n V S = k
      intro hno'
      unfold cardV card
      refine sum_congr fun w hw => ?_
      dsimp only
      have hw1 := hp w hw
      have hw2 := hno' w hw
      unfold lossA
      cases hVw : offV V v w
      · simp [b2i]
      · have hw1 := hw1 hVw
        cases hSw : S w
        · cases hNw : N w
          · simp [b2i]
          · have := hw2 hNw hSw
            simp [b2i]; omega
        · rw [hw1 hSw]; simp [b2i]
    have h4 := off_v (n := n) (V := V) hS
    omega
theorem eg_q0 {n : Nat} {d : Nat → Int} {V N S : Nat → Bool} {v : Nat} (h : Laid n d V N v) (hE : EG n d V) (hS : S v = false) (hq : ∀ u, u < n → N u = true → S u = true) : 0 ≤ egF n (lessN d N) (offV V v) S := by
  have h1 := eg_a h hS
  have h2 := hE S
  have h3 : sumTo n (lossA d (offV V v) N S (cardV n V S)) = cardV n (offV V v) N := by
    unfold cardV card
    refine sum_congr fun w hw => ?_
    dsimp only
    have hw1 := hq w hw
    unfold lossA
    cases hVw : offV V v w
    · simp [b2i]
    · cases hSw : S w
      · cases hNw : N w
        · simp [b2i]
        · rw [hw1 hNw] at hSw; cases hSw
      · simp
  have h5 := h.size
  omega
theorem eg_step {n : Nat} {d : Nat → Int} {V N : Nat → Bool} {v : Nat} (h : Laid n d V N v) (hE : EG n d V) (hev : sumV n d V % 2 = 0) : ∀ (m : Nat) (S : Nat → Bool), S v = false → farV n (offV V v) N S ≤ m → 0 ≤ egF n (lessN d N) (offV V v) S := by
  have hev2 := laid_sum h
  intro m
  induction m with
  | zero =>
    intro S hS hm
    refine eg_q0 h hE hS fun u hu hN => ?_
    cases hs : S u
    · exfalso
      have h1 := far_on hu (h.sub u hu hN) hs hN
      have h2 := cardV_nn n (offV V v) (fun w => onV S u w && !N w)
      have h3 := cardV_nn n (offV V v) (fun w => N w && !onV S u w)
      unfold farV at h1 hm
      omega
    · rfl
  | succ m ih =>
    intro S hS hm
    rcases Classical.em (∀ u, u < n → offV V v u = true → S u = true → N u = true) with hp | hp
    · exact eg_p0 h hE hS hp
    rcases Classical.em (∀ u, u < n → N u = true → S u = true) with hq | hq
    · exact eg_q0 h hE hS hq
    obtain ⟨s, s1, s2, s3, s4⟩ : ∃ s, s < n ∧ offV V v s = true ∧ S s = true ∧ N s = false := Classical.byContradiction fun q => hp fun u u1 u2 u3 => by
      cases e : N u
      · exact absurd ⟨u, u1, u2, u3, e⟩ q
      · rfl
    obtain ⟨u, u1, u2, u3⟩ : ∃ u, u < n ∧ N u = true ∧ S u = false := Classical.byContradiction fun q => hq fun u u1 u2 => by
      cases e : S u
      · exact absurd ⟨u, u1, u2, e⟩ q
      · rfl
    have u4 := h.sub u u1 u2
    have hsu : s ≠ u := fun e => by rw [e, u3] at s3; cases s3
    have hvs : v ≠ s := fun e => by rw [← e, hS] at s3; cases s3
    have hvu : v ≠ u := fun e => by rw [← e, off_at] at u4; cases u4
    have htop := h.top u s u1 s1 u2 s2 s4
    have d1 : lessN d N s = d s := by unfold lessN; rw [s4]; exact Int.sub_zero _
    have d2 : lessN d N u = d u - 1 := by unfold lessN; rw [u2]; rfl
    have f1 := far_on u1 u4 u3 u2
    have f2 := far_off s1 s2 s3 s4
    have f3 := far_off (S := onV S u) s1 s2 (by rw [on_ne hsu]; exact s3) s4
    have e1 := eg_on (d := lessN d N) u1 u4 u3
    have e2 := eg_on (d := lessN d N) (S := offV S s) s1 s2 (off_at S s)
    have e3 := eg_on (d := lessN d N) (S := offV (onV S u) s) s1 s2 (off_at _ s)
    rw [on_off s3] at e2
    rw [on_off (by rw [on_ne hsu]; exact s3)] at e3
    have k1 := cardV_off s1 s2 s3
    have k2 := cardV_on u1 u4 u3
    have k3 := cardV_off (S := onV S u) s1 s2 (by rw [on_ne hsu]; exact s3)
    rw [d2] at e1
    rw [d1] at e2 e3
    have i1 := ih (onV S u) (by rw [on_ne hvu]; exact hS) (by omega)
    have i2 := ih (offV S s) (by rw [off_ne hvs]; exact hS) (by omega)
    have i3 := ih (offV (onV S u) s) (by rw [off_ne hvs, on_ne hvu]; exact hS) (by omega)
    have hk3 : cardV n (offV V v) (offV (onV S u) s) = cardV n (offV V v) S := by omega
    have hk2 : cardV n (offV V v) (offV S s) = cardV n (offV V v) S - 1 := by omega
    rw [hk3] at e3
    rw [hk2] at e2
    rw [Int.sub_add_cancel] at e2
    have c2 := more_nn (lessN d N) (offV V v) S (cardV n (offV V v) S) n
    rcases Int.lt_or_le (d s) (d u) with hlt | hge
    · clear e2 i1 i2
      omega
    have hm2 : d u = d s := by omega
    rcases Int.lt_or_le (cardV n (offV V v) S) (d s) with hk | hk
    · have c3 := more_on (d := lessN d N) (k := cardV n (offV V v) S) u1 u4 u3 (by rw [d2]; omega)
      clear e3 i3
      omega
    rcases Int.lt_or_le (sumTo n (moreC (lessN d N) (offV V v) S (cardV n (offV V v) S))) 1 with hc | hc
    · have hall : ∀ w, w < n → offV V v w = true → S w = false → lessN d N w < cardV n (offV V v) S := fun w w1 w2 w3 => by
        rcases Int.lt_or_le (lessN d N w) (cardV n (offV V v) S) with q | q
        · exact q
        · have := more_pos w1 w2 w3 q; omega
      have hpar : egF n (lessN d N) (offV V v) S % 2 = 0 := by
        have p1 := even_kk (cardV n (offV V v) S)
        have p2 : (sumTo n (egAt (lessN d N) (offV V v) S (cardV n (offV V v) S)) - sumV n (lessN d N) (offV V v)) % 2 = 0 := parity_sum fun w hw => by
          have := hall w hw
          unfold egAt
          cases hVw : offV V v w
          · simp
          · cases hSw : S w
            · have := this hVw hSw
              simp; omega
            · simp; omega
        unfold egF egG
        omega
      clear e3 i3 e1 i1
      omega
    · clear e3 i3 e1 i1
      omega
theorem EG.next {n : Nat} {d : Nat → Int} {V N : Nat → Bool} {v : Nat} (hE : EG n d V) (h : Laid n d V N v) (hev : sumV n d V % 2 = 0) : EG n (lessN d N) (offV V v) := fun S => by
  have h1 := eg_step h hE hev (farV n (offV V v) N (offV S v)).toNat (offV S v) (off_at S v) (by omega)
  rw [egF_congr (T := offV S v) (fun u _ hu => (off_ne (fun e => by rw [e, off_at] at hu; cases hu)).symm)]
  exact h1
theorem EG.prev {n : Nat} {d : Nat → Int} {V N : Nat → Bool} {v : Nat} (h : Laid n d V N v) (hE : EG n (lessN d N) (offV V v)) : EG n d V := fun S => by
  have h5 := h.size
  cases hS : S v
  · have h1 := eg_a h hS
    have h2 := hE S
    have h3 : sumTo n (lossA d (offV V v) N S (cardV n V S)) ≤ cardV n (offV V v) N := by
      unfold cardV card
      refine sum_le fun w hw => ?_
      dsimp only
      unfold lossA
      cases offV V v w <;> cases S w <;> cases N w <;> simp [b2i]
      split <;> omega
    have h4 : sumTo n (lossA d (offV V v) N S (cardV n V S)) ≤ cardV n (offV V v) S := by
      generalize cardV n V S = k
      unfold cardV card
      refine sum_le fun w hw => ?_
      dsimp only
      unfold lossA
      cases offV V v w <;> cases S w <;> cases N w <;> simp [b2i]
      split <;> omega
    have h6 := off_v (n := n) (V := V) hS
    omega
  · have h0 := off_at S v
    have h1 := eg_b h h0
    rw [on_off hS] at h1
    have h2 := hE (offV S v)
    have h6 := off_v (n := n) (V := V) h0
    have h3 : sumTo n (lossB d (offV V v) N (offV S v) (cardV n V (offV S v))) + cardV n (offV V v) N ≤ 2 * cardV n (offV V v) (offV S v) := by
      generalize cardV n V (offV S v) = k
      unfold cardV card
      rw [← sum_add, ← sum_mul]
      refine sum_le fun w hw => ?_
      dsimp only
      unfold lossB
      cases offV V v w <;> cases offV S v w <;> cases N w <;> simp [b2i]
      split <;> omega
    omega
theorem EG.none {n : Nat} {d : Nat → Int} {V : Nat → Bool} (h : ∀ u, u < n → V u = false) : EG n d V := fun S => by
  have h1 : cardV n V S = 0 := sum_zero fun u hu => by show b2i (V u && S u) = 0; rw [h u hu]; rfl
  have h2 : sumTo n (egAt d V S 0) = 0 := sum_zero fun u hu => by unfold egAt; rw [h u hu]; rfl
  unfold egF egG
  rw [h1, h2]
  decide
/-- a node asks for more than there are who ask for any -/
theorem EG.few {n : Nat} {d : Nat → Int} {V : Nat → Bool} {v : Nat} (hE : EG n d V) (hv : v < n) (hV : V v = true) (h0 : ∀ u, u < n → V u = true → 0 ≤ d u) : d v ≤ cardV n (offV V v) fun u => decide (0 < d u) := by
  have h1 := hE (onV (fun _ => false) v)
  have h2 := eg_on (d := d) hv hV (S := fun _ => false) rfl
  have h3 : cardV n V (fun _ => false) = 0 := sum_zero fun u _ => by simp [b2i]
  have h4 : egF n d V (fun _ => false) = 0 := by
    unfold egF egG
    rw [h3, sum_zero fun u hu => ?_]
    · decide
    · have := h0 u hu
      unfold egAt
      cases hVu : V u
      · rfl
      · have := this hVu
        simp; omega
  rw [h3, h4] at h2
  have h5 : sumTo n (moreC d V (onV (fun _ => false) v) (0 + 1)) = cardV n (offV V v) fun u => decide (0 < d u) := by
    unfold cardV card
    refine sum_congr fun u hu => ?_
    dsimp only
    unfold moreC
    by_cases e : u = v
    · subst e; simp [onV, offV, b2i]
    · rw [on_ne e, off_ne e]
      cases V u <;> simp [b2i]
      split <;> split <;> omega
  have h6 := h0 v hv hV
  omega
end Go.Ab
