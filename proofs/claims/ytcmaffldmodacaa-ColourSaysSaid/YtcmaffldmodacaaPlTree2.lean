/- Of trees and their codes, part two: the start, what hangs together, the reference's masks. -/
import Derived.Test.YtcmaffldmodacaaPlTree
import Derived.Test.YtcmaffldmodacaaPlA
namespace Go.Ab
def adjT (es : List Arc) (v u : Nat) : Bool := es.any fun a => (decide (a.src = v) && decide (a.dst = u)) || (decide (a.dst = v) && decide (a.src = u))
structure NearM (N : List Int) (es : List Arc) : Prop where
  len : N.length = 12
  rng : ∀ v : Nat, 0 ≤ N.getD v 0 ∧ N.getD v 0 ≤ 4095
  bit : ∀ v u : Nat, v < 12 → has (N.getD v 0) u = adjT es v u
end Go.Ab
