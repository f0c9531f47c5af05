/- Of slices: Delete of one element: what the contracts have in common. -/
import Derived.Test.YtcmaffldmodacaaAbC
import Derived.Test.YtcmaffldmodacaaPlA
import Derived.WalkKit
import Derived.Lib.SliceRun
import Derived.Laws.IdiomCopy
namespace Go.Ab
open Go Go.RowKit
structure WrS (b : Nat) (w w' : World) : Prop where
  os : w'.os = w.os
  tape : w'.tape = w.tape
  output : w'.output = w.output
  drawn : w'.drawn = w.drawn
  size : w'.heap.size = w.heap.size
  other : ∀ c, c ≠ b → w'.heap[c]? = w.heap[c]?
end Go.Ab
