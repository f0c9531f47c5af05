/- Of trails that go along each arc once: the plain laws. -/
import Derived.Test.YtcmaffldmodacaaPlA
import Derived.Test.YtcmaffldmodacaaPlB
import Derived.Test.YtcmaffldmodacaaPlA
namespace Go.Ab
def balA (a : Arc) (v : Int) : Int := (if a.src = v then 1 else 0) - (if a.dst = v then 1 else 0)
def bal : List Arc → List Bool → Int → Int
  | a :: r, u :: q, v => (if u = true then 0 else balA a v) + bal r q v
  | _, _, _ => 0
def stuck (es : List Arc) (us : List Bool) (v : Int) : Prop := ∀ k : Nat, k < es.length → us.getD k false = false → (es.getD k default).src ≠ v
def chainE (es : List Arc) (u : Int) : List Int → Int → Prop
  | [], w => u = w
  | x :: r, w => (es.getD x.toNat default).src = u ∧ chainE es (es.getD x.toNat default).dst r w
structure Eul (es : List Arc) (s f : Int) (us : List Bool) (dn op : List Int) (at_ base : Int) : Prop where
  ul : us.length = es.length
  us_ : ∀ k : Nat, k < es.length → (us.getD k false = true ↔ (k : Int) ∈ dn ∨ (k : Int) ∈ op)
  nd : (dn ++ op).Nodup
  rng : ∀ x ∈ dn ++ op, 0 ≤ x ∧ x < es.length
  opn : chainE es s op at_
  don : chainE es base dn.reverse f
  bl : ∀ v, bal es us v = (if v = at_ then 1 else 0) - (if v = base then 1 else 0)
  st : ∀ x ∈ dn, stuck es us (es.getD x.toNat default).dst
end Go.Ab
