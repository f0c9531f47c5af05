/- Of pairs that stay: the plain laws. -/
import Derived.Test.YtakfbagokponeaaPlA
namespace Go.Ab
def rk (l : List Int) (x : Int) : Int := idxOf (fun y => decide (x = y)) l
structure Lists (a b : List (List Int)) : Prop where
  small : a.length ≤ 6
  len : b.length = a.length
  ra : ∀ i, i < a.length → isFull a.length (a.getD i [])
  rb : ∀ i, i < a.length → isFull a.length (b.getD i [])
def before (r : List Int) (x : Int) : List Int := r.take (rk r x).toNat
end Go.Ab
