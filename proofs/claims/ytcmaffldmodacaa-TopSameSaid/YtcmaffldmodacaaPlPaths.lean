/- Of ways that have no arc in common, and of what parts them (MENGER): the plain laws. -/
import Derived.Test.YtcmaffldmodacaaPlSplit2
import Derived.Test.YtcmaffldmodacaaPlStable
namespace Go.Ab
/-- Ways that have no arc in common. -/
structure Apart (es : List Arc) (s t : Int) (W : List (List Int)) : Prop where
  way : ∀ w ∈ W, isWay es w s t = true
  nd : W.flatten.Nodup
  inr : ∀ w ∈ W, ∀ k ∈ w, 0 ≤ k ∧ k < es.length
/-! ### The arcs that go out of a side -/
end Go.Ab
