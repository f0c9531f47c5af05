/- Of what joins all, at the least: what is joined, and by which bound: the plain laws. -/
import Derived.Test.YtcmaffldmodacaaPlSides
import Derived.Test.YtcmaffldmodacaaPlA
import Derived.Test.YtcmaffldmodacaaPlA
namespace Go.Ab
inductive Lk (A : List Arc) : Int → Int → Prop
  | refl (u : Int) : Lk A u u
  | symm {u v : Int} : Lk A u v → Lk A v u
  | trans {u v w : Int} : Lk A u v → Lk A v w → Lk A u w
  | arc {a : Arc} : a ∈ A → Lk A a.src a.dst
structure Prt (n : Int) (A : List Arc) (P : List Int) : Prop where
  len : P.length = n.toNat
  lab : ∀ u v : Nat, u < n.toNat → v < n.toNat → (P.getD u 0 = P.getD v 0 ↔ Lk A u v)
inductive Wl (E : Nat → Nat → Prop) (m : Nat) : Nat → Nat → Prop
  | base {i k : Nat} : E i k → Wl E m i k
  | step {i j k : Nat} : Wl E m i j → j < m → E j k → Wl E m i k
end Go.Ab
namespace Go.Ab
end Go.Ab
