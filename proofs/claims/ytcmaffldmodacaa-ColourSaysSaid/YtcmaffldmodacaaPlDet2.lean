/- Of determinants without a fraction on the way: the plain laws. -/
import Derived.Test.YtcmaffldmodacaaPlDet
import Derived.Test.YtcmaffldmodacaaPlB
namespace Go.Ab
def brd (B : Nat → Nat → Int) (k r c : Nat) : Nat → Nat → Int := fun i j => B (if i < k then i else r) (if j < k then j else c)
def minr (B : Nat → Nat → Int) (k r c : Nat) : Int := det (k + 1) (brd B k r c)
def prm (A : Nat → Nat → Int) (σ : Nat → Nat) : Nat → Nat → Int := fun i j => A (σ i) j
structure Perm (n : Nat) (σ : Nat → Nat) : Prop where
  lt : ∀ i, i < n → σ i < n
  inj : ∀ i j, i < n → j < n → σ i = σ j → i = j
structure Bar (n : Nat) (A : Nat → Nat → Int) (L : List (List Int)) (k : Nat) (sign last : Int) (σ : Nat → Nat) : Prop where
  sq : Sq n L
  pm : Perm n σ
  lst : last = det k (prm A σ)
  ne : last ≠ 0
  sgn : sign * det n (prm A σ) = det n A
  s1 : sign = 1 ∨ sign = -1
  at_ : ∀ i j, k ≤ i → i < n → k ≤ j → j < n → at2 L i j = minr (prm A σ) k i j
  bd : ∀ i j, i < n → j < n → -9223372036854775807 ≤ at2 L i j ∧ at2 L i j ≤ 9223372036854775807
  lb : -9223372036854775807 ≤ last ∧ last ≤ 9223372036854775807
structure Rnd (n : Nat) (B : Nat → Nat → Int) (L : List (List Int)) (k i0 j0 : Nat) : Prop where
  sq : Sq n L
  done : ∀ i j, k < i → i < n → k < j → j < n → (i < i0 ∨ (i = i0 ∧ j < j0)) → at2 L i j = minr B (k + 1) i j
  rest : ∀ i j, k ≤ i → i < n → k ≤ j → j < n → (i = k ∨ j = k ∨ i0 < i ∨ (i = i0 ∧ j0 ≤ j)) → at2 L i j = minr B k i j
  bd : ∀ i j, i < n → j < n → -9223372036854775807 ≤ at2 L i j ∧ at2 L i j ≤ 9223372036854775807
end Go.Ab
