/- Of the table of a graph with some rows struck out: how many trees a tree has, and a tree with one arc more. -/
import Derived.Test.YtcmaffldmodacaaPlCount
namespace Go.Ab
structure DistC (es : List Arc) (s t : Int) (d : Nat) : Prop where
  way : wk (bothA es) d s t = true
  pot : ∃ p : Int → Int, p s = 0 ∧ p t = d ∧ ∀ a ∈ es, -1 ≤ p a.src - p a.dst ∧ p a.src - p a.dst ≤ 1
end Go.Ab
