/- Of pushes: the plain laws. -/
import Derived.Test.YtoghkabjfpolbaaPlGraph
namespace Go.Ab
def pushCap (s : Int) (a : Arc) : Int := if a.src = s ∧ a.dst ≠ s then a.cap else 0
def pushFlow (s : Int) (es : List Arc) : List Int := es.map (pushCap s)
def pushHeight (n s : Int) : List Int := (List.replicate n.toNat 0).set s.toNat n
end Go.Ab
