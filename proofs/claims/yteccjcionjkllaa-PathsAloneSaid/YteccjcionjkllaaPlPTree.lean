/- Of trees whose least weights part any two nodes: the plain laws. -/
import Derived.Test.YteccjcionjkllaaPlA
import Derived.Test.YteccjcionjkllaaPlA
namespace Go.Ab
def cutP (p : Nat → Bool) : List Arc → Int
  | [] => 0
  | a :: r => (if p a.src.toNat = p a.dst.toNat then 0 else a.cap) + cutP p r
structure Lam (n : Nat) (es : List Arc) (L : Nat → Nat → Int) : Prop where
  le : ∀ i j p, i < n → j < n → p i = true → p j = false → L i j ≤ cutP p es
  ex : ∀ i j, i < n → j < n → i ≠ j → ∃ p : Nat → Bool, p i = true ∧ p j = false ∧ cutP p es = L i j
theorem has_maskOf (p : Nat → Bool) {n v : Nat} (hv : v < n) : has ((maskOf p n : Nat) : Int) v = p v := by
  have h1 := maskOf_bit p n v hv
  have h2 := bit_nat (maskOf p n) v
  rw [h1] at h2
  rw [bit_has _ (by omega)] at h2
  simp only [Int.toNat_natCast] at h2
  by_cases h3 : has ((maskOf p n : Nat) : Int) v = true <;> by_cases h4 : p v = true <;> simp [h3, h4] at h2 ⊢
structure PT (n : Nat) (es : List Arc) (L : Nat → Nat → Int) (up w : List Int) (s : Nat) : Prop where
  ul : up.length = n
  wl : w.length = n
  s1 : 1 ≤ s
  u0 : up.getD 0 0 = 0
  w0 : w.getD 0 0 = 0
  below : ∀ k, 1 ≤ k → k < n → 0 ≤ up.getD k 0 ∧ up.getD k 0 < k ∧ up.getD k 0 < s
  sep : ∀ i j, i < s → j < s → i ≠ j → ∃ p : Nat → Bool, p i = true ∧ p j = false ∧ cutP p es = L i j ∧ ∀ k, s ≤ k → k < n → p k = p (up.getD k 0).toNat
  wt : ∀ k, 1 ≤ k → k < s → w.getD k 0 = L k (up.getD k 0).toNat
  path : ∀ k j, 1 ≤ k → k < s → j < k → j ≠ (up.getD k 0).toNat → L k j = min (w.getD k 0) (L (up.getD k 0).toNat j)
end Go.Ab
