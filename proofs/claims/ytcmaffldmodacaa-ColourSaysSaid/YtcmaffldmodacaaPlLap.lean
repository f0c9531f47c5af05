/- Of the table of a graph's degrees and arcs: its minors. -/
import Derived.Test.YtcmaffldmodacaaPlDet3
namespace Go.Ab
def ev (a : Arc) (i : Nat) : Int := (if a.src = (i : Int) then 1 else 0) - (if a.dst = (i : Int) then 1 else 0)
def lap : List Arc → Nat → Nat → Int
  | [], _, _ => 0
  | a :: r, i, j => ev a i * ev a j + lap r i j
end Go.Ab
