/- Of determinants: the plain laws. -/
import Derived.Test.YtcmaffldmodacaaPlA
namespace Go.Ab
def sumTo : Nat → (Nat → Int) → Int
  | 0, _ => 0
  | n + 1, f => sumTo n f + f n
def sg (j : Nat) : Int := if j % 2 = 0 then 1 else -1
def sk (j c : Nat) : Nat := if c < j then c else c + 1
def det : Nat → (Nat → Nat → Int) → Int
  | 0, _ => 1
  | n + 1, A => sumTo (n + 1) fun j => sg j * A 0 j * det n fun i c => A (i + 1) (sk j c)
end Go.Ab
