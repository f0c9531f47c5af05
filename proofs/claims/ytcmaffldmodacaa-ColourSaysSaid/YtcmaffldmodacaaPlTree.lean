/- Of codes of trees: what is read out of a code: the plain laws. -/
import Derived.Test.YtcmaffldmodacaaPlA
import Derived.Test.YtcmaffldmodacaaPlA
import Derived.Test.YtcmaffldmodacaaPlB
namespace Go.Ab
def occ (l : List Int) (v : Int) : Int := (l.countP fun x => decide (x = v) : Nat)
def sumZ : List Int → Int
  | [] => 0
  | x :: r => x + sumZ r
def deadZ (l : List Int) : Nat := l.countP fun x => decide (x = -1)
structure Lft (n : Nat) (L r : List Int) : Prop where
  len : L.length = n
  rng : ∀ x ∈ r, 0 ≤ x ∧ x < n
  at_ : ∀ v : Nat, v < n → (L.getD v 0 = -1 ∧ occ r v = 0) ∨ L.getD v 0 = occ r v
  dead : n = r.length + 2 + deadZ L
  sum : sumZ L = r.length - deadZ L
def touch (a : Arc) (v : Int) : Bool := decide (a.src = v) || decide (a.dst = v)
def degT (es : List Arc) (v : Int) : Nat := es.countP fun a => touch a v
end Go.Ab
