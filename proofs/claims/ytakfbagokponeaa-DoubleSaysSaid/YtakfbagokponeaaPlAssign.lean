/- Of who does what: the plain laws, part one: the best order. -/
import Derived.Test.YtakfbagokponeaaPlStable2
import Derived.Test.YtakfbagokponeaaPlA
namespace Go.Ab
/-! ### The table -/
def offBad (least x : Int) : Bool := decide (x < least) || decide (1000 < x)
def rowsErr (n : Nat) (least : Int) : List (List Int) → Int
  | [] => 0
  | r :: rs => if r.length ≠ n then 3 else if r.any (offBad least) = true then 1 else rowsErr n least rs
def tabErr (t : List (List Int)) (least : Int) : Int := if 6 < t.length then 2 else rowsErr t.length least t
def gn (t : List (List Int)) (i k : Nat) : Int := (t.getD i []).getD k 0
structure Gains (t : List (List Int)) : Prop where
  n6 : t.length ≤ 6
  row : ∀ i, i < t.length → (t.getD i []).length = t.length
  at_ : ∀ i k : Nat, i < t.length → k < t.length → -1000 ≤ gn t i k ∧ gn t i k ≤ 1000
theorem rows_drop {n : Nat} {least : Int} {t : List (List Int)} {i : Nat} (h : i < t.length) : rowsErr n least (t.drop i) = if (t.getD i []).length ≠ n then 3 else if (t.getD i []).any (offBad least) = true then 1 else rowsErr n least (t.drop (i + 1)) := by
  rw [drop_getD t [] i h]; rfl
theorem rows_end {n : Nat} {least : Int} {t : List (List Int)} {i : Nat} (h : t.length ≤ i) : rowsErr n least (t.drop i) = 0 := by rw [List.drop_of_length_le h]; rfl
theorem rows_ok {n : Nat} {least : Int} : ∀ {t : List (List Int)}, rowsErr n least t = 0 → ∀ r ∈ t, r.length = n ∧ ∀ x ∈ r, least ≤ x ∧ x ≤ 1000
  | [], _, r, hr => by cases hr
  | a :: t, h, r, hr => by
    unfold rowsErr at h
    split at h
    · cases h
    · split at h
      · cases h
      · rename_i h1 h2
        rcases List.mem_cons.1 hr with rfl | hr
        · refine ⟨by omega, fun x hx => ?_⟩
          have h3 : offBad least x = false := by
            cases hc : offBad least x
            · rfl
            · exact absurd (List.any_eq_true.2 ⟨x, hx, hc⟩) h2
          unfold offBad at h3
          rw [Bool.or_eq_false_iff] at h3
          have := of_decide_eq_false h3.1; have := of_decide_eq_false h3.2
          omega
        · exact rows_ok h r hr
/-! ### The sum of an order -/
/-! ### Masks -/
theorem many_clear {z : Int} {k : Nat} (h : has z k = true) : ∀ {m : Nat}, many (iandn z (1 * 2 ^ k)) m + (if k < m then 1 else 0) = many z m
  | 0 => by simp [many]
  | m + 1 => by
    have ih := many_clear h (m := m)
    rw [many, many, has_iandn, has_pow]
    by_cases e : k = m
    · subst e
      rw [if_neg (by omega)] at ih
      rw [if_pos (show k < k + 1 by omega), h]
      simp only [decide_true, Bool.not_true, Bool.and_false, Bool.false_eq_true, if_false, if_true]
      omega
    · have : decide (k = m) = false := decide_eq_false e
      rw [this]
      simp only [Bool.not_false, Bool.and_true]
      generalize (if has z m = true then 1 else 0) = X
      by_cases e2 : k < m
      · rw [if_pos e2] at ih; rw [if_pos (by omega)]; omega
      · rw [if_neg e2] at ih; rw [if_neg (by omega)]; omega
theorem many_ex {z : Int} : ∀ {m : Nat}, many z m ≠ 0 → ∃ k, k < m ∧ has z k = true
  | 0, h => absurd rfl h
  | m + 1, h => by
    unfold many at h
    cases e : has z m
    · rw [e] at h
      obtain ⟨k, h1, h2⟩ := many_ex (m := m) (z := z) (by simpa using h)
      exact ⟨k, by omega, h2⟩
    · exact ⟨m, by omega, e⟩
structure Msk (n : Nat) (z : Int) (d : Nat) : Prop where
  z0 : 0 ≤ z
  zn : z < 1 * 2 ^ n
  d : many z 6 = d
theorem pow_cast (n : Nat) : (1 * 2 ^ n : Int) = ((2 ^ n : Nat) : Int) := by rw [Int.one_mul]; norm_cast
theorem Msk.lt {n d : Nat} {z : Int} (h : Msk n z d) {k : Nat} (hk : has z k = true) : k < n := by
  by_cases e : k < n
  · exact e
  · have := has_lt (n := n) (v := k) h.z0 (by rw [← pow_cast]; exact h.zn) (by omega)
    rw [this] at hk; cases hk
theorem iandn_le {a b : Int} (ha : 0 ≤ a) : iandn a b ≤ a := by
  rcases Classical.em (iandn a b ≤ a) with q | q
  · exact q
  · exfalso
    have h1 : sub (iandn a b) a := fun v hv => by rw [has_iandn, Bool.and_eq_true] at hv; exact hv.1
    have h2 : (iandn a b).toNat &&& a.toNat = (iandn a b).toNat := by
      apply Nat.eq_of_testBit_eq
      intro i
      rw [Nat.testBit_and]
      have := h1 i
      unfold has at this
      cases e : (iandn a b).toNat.testBit i
      · rfl
      · rw [this e]; rfl
    have h3 : (iandn a b).toNat &&& a.toNat ≤ a.toNat := Nat.and_le_right
    have := iandn0 a b
    omega
theorem Msk.clear {n d : Nat} {z : Int} (hn : n ≤ 6) (h : Msk n z (d + 1)) {k : Nat} (hk : has z k = true) : Msk n (iandn z (1 * 2 ^ k)) d ∧ iandn z (1 * 2 ^ k) < z := by
  have hkn := h.lt hk
  have h1 := many_clear hk (m := 6)
  rw [if_pos (by omega), h.d] at h1
  have h2 := iandn_le (a := z) (b := 1 * 2 ^ k) h.z0
  have h3 := iandn0 z (1 * 2 ^ k)
  have h4 := h.zn
  have h5 : iandn z (1 * 2 ^ k) ≠ z := fun e => by rw [e, h.d] at h1; omega
  exact ⟨⟨h3, by omega, by omega⟩, by omega⟩
theorem Msk.ex {n d : Nat} {z : Int} (h : Msk n z (d + 1)) : ∃ k, k < n ∧ has z k = true := by
  obtain ⟨k, _, h2⟩ := many_ex (z := z) (m := 6) (by rw [h.d]; omega)
  exact ⟨k, h.lt h2, h2⟩
/-! ### The best of what is left -/
/-! ### The first best of all orders -/
def ordFrom (n : Nat) : Nat → List (List Int) → List (List Int)
  | 0, L => L
  | d + 1, L => ordFrom n d (ordStep n L)
theorem ordStep_append {n : Nat} : ∀ {a b : List (List Int)}, ordStep n (a ++ b) = ordStep n a ++ ordStep n b
  | [], _ => rfl
  | l :: a, b => by rw [List.cons_append, ordStep, ordStep, ordStep_append, List.append_assoc]
theorem ordFrom_append {n : Nat} : ∀ {d : Nat} {a b : List (List Int)}, ordFrom n d (a ++ b) = ordFrom n d a ++ ordFrom n d b
  | 0, _, _ => rfl
  | d + 1, a, b => by rw [ordFrom, ordStep_append, ordFrom_append]; rfl
theorem ordFrom_nil {n : Nat} : ∀ {d : Nat}, ordFrom n d [] = []
  | 0 => rfl
  | d + 1 => by rw [ordFrom]; exact ordFrom_nil
theorem ordFrom_iter {n : Nat} : ∀ {d r : Nat}, ordFrom n d (ordIter n r) = ordIter n (r + d)
  | 0, r => rfl
  | d + 1, r => by
    rw [ordFrom, show ordStep n (ordIter n r) = ordIter n (r + 1) from rfl, ordFrom_iter, show r + 1 + d = r + (d + 1) by omega]
end Go.Ab
