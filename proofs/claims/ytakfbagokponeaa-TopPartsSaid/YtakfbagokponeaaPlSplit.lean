/- Of a flow that falls into pieces: the plain laws. -/
import Derived.Test.YtakfbagokponeaaPlB
import Derived.Test.YtakfbagokponeaaPlA
import Derived.Test.YtakfbagokponeaaAbC
import Derived.Test.YtakfbagokponeaaPlA
namespace Go.Ab
structure Chn (es : List Arc) (left : List Int) (B W : List Int) : Prop where
  wl : W.length = B.length + 1
  nd : (W.take B.length).Nodup
  st : ∀ j, j < B.length → 0 ≤ B.getD j 0 ∧ B.getD j 0 < es.length ∧ (es.getD (B.getD j 0).toNat default).src = W.getD j 0 ∧ (es.getD (B.getD j 0).toNat default).dst = W.getD (j + 1) 0 ∧ 0 < left.getD (B.getD j 0).toNat 0
structure Pc (es : List Arc) (p : Int × List Int) (s t : Int) : Prop where
  ne : p.2 ≠ []
  nd : p.2.Nodup
  kr : ∀ k ∈ p.2, 0 ≤ k ∧ k < es.length
  a1 : 1 ≤ p.1
  way : isWay es p.2 s t = true
def noLoop (es : List Arc) (k : Int) : Prop := (es.getD k.toNat default).src ≠ (es.getD k.toNat default).dst
structure PieceOk (es : List Arc) (left : List Int) (p : Int × List Int) (s t : Int) : Prop extends Pc es p s t where
  le : ∀ k ∈ p.2, p.1 ≤ left.getD k.toNat 0
  zero : ∃ k ∈ p.2, left.getD k.toNat 0 = p.1
  loop : (p.2.length = 1 ∧ s = t) ∨ ∀ k ∈ p.2, noLoop es k
def posL (l : List Int) : List Nat := (List.range l.length).filter fun j => decide (0 < l.getD j 0)
def usedOf (k : Nat) : List (Int × List Int) → Int
  | [] => 0
  | p :: r => (if (k : Int) ∈ p.2 then p.1 else 0) + usedOf k r
def sumOf : List (Int × List Int) → Int
  | [] => 0
  | p :: r => p.1 + sumOf r
def Open (es : List Arc) (left : List Int) : Prop := ∃ k : Nat, k < es.length ∧ noLoop es (k : Int) ∧ 0 < left.getD k 0
structure Spl (n s t : Int) (es : List Arc) (f left : List Int) (value : Int) (ways rounds : List (Int × List Int)) : Prop where
  ll : left.length = es.length
  nn : ∀ j, j < es.length → 0 ≤ left.getD j 0
  sum : ∀ j, j < es.length → left.getD j 0 + usedOf j ways + usedOf j rounds = f.getD j 0
  cons : ∀ v, v ≠ s → v ≠ t → gone es left v = 0
  gs : gone es left s = value
  gt : gone es left t = -value
  v0 : 0 ≤ value
  tot : sumOf ways + value = gone es f s
  okw : ∀ p ∈ ways, Pc es p s t
  okr : ∀ p ∈ rounds, ∃ x, Pc es p x x
  cnt : ways.length + rounds.length + (posL left).length ≤ es.length ∨ (value = 0 ∧ ways.length + rounds.length + (posL left).length ≤ es.length + 1 ∧ Open es left)
end Go.Ab
