/- How many trees a graph has: what the program and the reference make of it. -/
import Derived.Test.YtcmaffldmodacaaPlTr
import Derived.Test.YtcmaffldmodacaaDel0
import Derived.Test.YtcmaffldmodacaaPlA
namespace Go.Ab
structure Bd (m : Nat) (L : List (List Int)) (b : Int) : Prop where
  sq : Sq m L
  bd : ∀ i j, i < m → j < m → -b ≤ at2 L i j ∧ at2 L i j ≤ b
structure LapT (m : Nat) (L : List (List Int)) (es : List Arc) : Prop where
  sq : Sq m L
  at_ : ∀ i j, i < m → j < m → at2 L i j = lap es i j
structure LapR (m : Nat) (r : List Int) (i : Nat) (es : List Arc) : Prop where
  len : r.length = m
  at_ : ∀ j, j < m → r.getD j 0 = lap es (i + 1) (j + 1)
structure LapM (m : Nat) (M : List (List Int)) (es : List Arc) : Prop where
  len : M.length ≤ m
  row : ∀ i, i < M.length → LapR m (M.getD i []) i es
end Go.Ab
