/- Of tables of 0 and 1 by their sums: the plain laws. -/
import Derived.Test.YtakfbagokponeaaPlIns
import Derived.Test.YtakfbagokponeaaPlA
namespace Go.Ab
def cmpI (x y : Int) : Int := if x < y then -1 else if y < x then 1 else 0
def leG (L : List Int) (i k : Int) : Bool := decide (L.getD k.toNat 0 < L.getD i.toNat 0 ∨ (L.getD i.toNat 0 = L.getD k.toNat 0 ∧ i ≤ k))
def ordOf (L : List Int) : List Int := (idsOf L.length).mergeSort (leG L)
def setOf (l : List Int) : Int := l.foldl (fun z k => ior z (1 * 2 ^ k.toNat)) 0
structure Taken (L X : List Int) (z : Int) (j : Nat) : Prop where
  len : X.length = L.length
  at_ : ∀ k : Nat, k < L.length → X.getD k 0 = L.getD k 0 - if (k : Int) ∈ (ordOf L).take j then 1 else 0
  set : z = setOf ((ordOf L).take j)
end Go.Ab
