/- Of pairs that stay: the plain laws. -/
import Derived.Test.YtcmaffldmodacaaPlA
namespace Go.Ab
def rk (l : List Int) (x : Int) : Int := idxOf (fun y => decide (x = y)) l
/-! ### The lists of both sides -/
structure Lists (a b : List (List Int)) : Prop where
  small : a.length ≤ 6
  len : b.length = a.length
  ra : ∀ i, i < a.length → isFull a.length (a.getD i [])
  rb : ∀ i, i < a.length → isFull a.length (b.getD i [])
/-! ### Who would rather go -/
/-- Those whom a row would rather have. -/
def before (r : List Int) (x : Int) : List Int := r.take (rk r x).toNat
end Go.Ab
