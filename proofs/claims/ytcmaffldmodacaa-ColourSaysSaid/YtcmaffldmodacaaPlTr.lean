/- Of trees: a leaf, and what is left without it. -/
import Derived.Test.YtcmaffldmodacaaPlLap
import Derived.Test.YtcmaffldmodacaaPlTree2
import Derived.Test.YtcmaffldmodacaaPlSpan
namespace Go.Ab
def nodesN (n : Nat) (live : Nat → Bool) : Nat := (List.range n).countP live
structure Tr (n : Nat) (live : Nat → Bool) (es : List Arc) : Prop where
  in_ : ∀ a ∈ es, ∃ u v : Nat, a.src = u ∧ a.dst = v ∧ u < n ∧ v < n ∧ live u = true ∧ live v = true
  len : es.length + 1 = nodesN n live
  con : ∀ u v : Nat, u < n → v < n → live u = true → live v = true → Lk es u v
def ends (a : Arc) (f k : Int) : Prop := (a.src = f ∧ a.dst = k) ∨ (a.src = k ∧ a.dst = f)
structure LeafAt (n : Nat) (live : Nat → Bool) (pre : List Arc) (a : Arc) (post : List Arc) (f k : Nat) : Prop where
  fn : f < n
  kn : k < n
  fk : f ≠ k
  lf : live f = true
  lk : live k = true
  en : ends a f k
  dpre : degT pre f = 0
  dpost : degT post f = 0
  tr : Tr n (fun v => live v && !decide (v = f)) (pre ++ post)
end Go.Ab
