/- Of sides, that are numbers: the plain laws. -/
import Derived.Test.YteccjcionjkllaaPlCut
namespace Go.Ab
/-- Does a side hold a node? -/
def has (z : Int) (v : Nat) : Bool := z.toNat.testBit v
theorem bit_has {z : Int} (v : Int) (h : 0 ≤ z) : bit z v = if has z v.toNat then 1 else 0 := by
  unfold bit iand has
  have h1 : (z / 2 ^ v.toNat).toNat = z.toNat / 2 ^ v.toNat := by
    obtain ⟨m, rfl⟩ := Int.eq_ofNat_of_zero_le h
    have h4 : ((2 ^ v.toNat : Nat) : Int) = (2 : Int) ^ v.toNat := by norm_cast
    rw [← h4]
    norm_cast
  rw [h1, ← Nat.shiftRight_eq_div_pow]
  have h2 : ((z.toNat >>> v.toNat) &&& (1 : Int).toNat) = (z.toNat >>> v.toNat) % 2 := Nat.and_one_is_mod _
  rw [h2, Nat.testBit, Nat.one_and_eq_mod_two]
  have h3 : z.toNat >>> v.toNat % 2 = 0 ∨ z.toNat >>> v.toNat % 2 = 1 := by omega
  rcases h3 with h3 | h3 <;> rw [h3] <;> rfl
theorem bit_yes {z : Int} {v : Int} (h : 0 ≤ z) : bit z v = 1 ↔ has z v.toNat = true := by
  rw [bit_has v h]; cases has z v.toNat <;> simp
theorem bit_no {z : Int} {v : Int} (h : 0 ≤ z) : bit z v = 0 ↔ has z v.toNat = false := by
  rw [bit_has v h]; cases has z v.toNat <;> simp
theorem has_ior {a b : Int} {v : Nat} : has (ior a b) v = (has a v || has b v) := by
  unfold has ior; rw [Int.toNat_natCast, Nat.testBit_or]
theorem has_iand {a b : Int} {v : Nat} : has (iand a b) v = (has a v && has b v) := by
  unfold has iand; rw [Int.toNat_natCast, Nat.testBit_and]
theorem has_iandn {a b : Int} {v : Nat} : has (iandn a b) v = (has a v && !has b v) := by
  unfold has iandn; rw [Int.toNat_natCast, Nat.testBit_xor, Nat.testBit_and]
  cases a.toNat.testBit v <;> cases b.toNat.testBit v <;> rfl
theorem pow_nat (k : Nat) : ((2 : Int) ^ k) = ((2 ^ k : Nat) : Int) := by norm_cast
theorem has_pow {k v : Nat} : has (1 * 2 ^ k) v = decide (k = v) := by
  unfold has; rw [Int.one_mul, pow_nat, Int.toNat_natCast, Nat.testBit_two_pow]
theorem has_mask {k v : Nat} : has (1 * 2 ^ k - 1) v = decide (v < k) := by
  unfold has
  have h : (1 * 2 ^ k - 1 : Int).toNat = 2 ^ k - 1 := by
    have : 1 ≤ 2 ^ k := Nat.one_le_two_pow
    rw [Int.one_mul, pow_nat]; omega
  rw [h, Nat.testBit_two_pow_sub_one]
theorem has_zero (v : Nat) : has 0 v = false := by unfold has; exact Nat.zero_testBit v
theorem side_ext {a b : Int} (ha : 0 ≤ a) (hb : 0 ≤ b) (h : ∀ v, has a v = has b v) : a = b := by
  have : a.toNat = b.toNat := Nat.eq_of_testBit_eq h
  omega
theorem has_lt {z : Int} {n v : Nat} (_h0 : 0 ≤ z) (h1 : z < ((2 ^ n : Nat) : Int)) (hv : n ≤ v) : has z v = false := by
  unfold has
  apply Nat.testBit_lt_two_pow
  have : 2 ^ n ≤ 2 ^ v := Nat.pow_le_pow_right (by decide) hv
  omega
theorem lt_has {z : Int} {n : Nat} (h0 : 0 ≤ z) (h : ∀ v, n ≤ v → has z v = false) : z < ((2 ^ n : Nat) : Int) := by
  have : z.toNat < 2 ^ n := Nat.lt_pow_two_of_testBit _ h
  omega
theorem ior0 (a b : Int) : 0 ≤ ior a b := Int.natCast_nonneg _
theorem iand0 (a b : Int) : 0 ≤ iand a b := Int.natCast_nonneg _
theorem iandn0 (a b : Int) : 0 ≤ iandn a b := Int.natCast_nonneg _
/-- One side lies within another one. -/
def sub (a b : Int) : Prop := ∀ v, has a v = true → has b v = true
theorem sub_antisymm {a b : Int} (ha : 0 ≤ a) (hb : 0 ≤ b) (h1 : sub a b) (h2 : sub b a) : a = b :=
  side_ext ha hb fun v => by
    cases e1 : has a v <;> cases e2 : has b v
    · rfl
    · have := h2 v e2; rw [e1] at this; cases this
    · have := h1 v e1; rw [e2] at this; cases this
    · rfl
/-- How many of the first m nodes a side holds. -/
def many (z : Int) : Nat → Nat
  | 0 => 0
  | m + 1 => (if has z m then 1 else 0) + many z m
theorem many_le (z : Int) : ∀ m, many z m ≤ m
  | 0 => Nat.le_refl _
  | m + 1 => by have := many_le z m; unfold many; split <;> omega
theorem many_sub {a b : Int} (h : sub a b) : ∀ m, many a m ≤ many b m
  | 0 => Nat.le_refl _
  | m + 1 => by
    have := many_sub h m
    unfold many
    cases e : has a m
    · simp; split <;> omega
    · rw [h m e]; simp; omega
theorem many_lt {a b : Int} (h : sub a b) {v : Nat} (h1 : has a v = false) (h2 : has b v = true) : ∀ {m}, v < m → many a m < many b m
  | m + 1, hv => by
    unfold many
    by_cases e : v = m
    · subst e
      rw [h1, h2]
      have := many_sub h v
      simp; omega
    · have := many_lt h h1 h2 (m := m) (by omega)
      cases e2 : has a m
      · simp; split <;> omega
      · rw [h m e2]; simp; omega
theorem many_pos {z : Int} {v : Nat} (h : has z v = true) : ∀ {m}, v < m → 1 ≤ many z m
  | m + 1, hv => by
    unfold many
    by_cases e : v = m
    · subst e; rw [h]; simp
    · have := many_pos h (m := m) (by omega); omega
end Go.Ab
