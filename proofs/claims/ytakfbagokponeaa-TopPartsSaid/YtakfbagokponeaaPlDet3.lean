/- Of determinants of tables: the plain laws. -/
import Derived.Test.YtakfbagokponeaaPlDet2
import Derived.Test.YtakfbagokponeaaPlA
namespace Go.Ab
theorem Rnd.piv {n : Nat} {A : Nat → Nat → Int} {L L2 : List (List Int)} {k i j : Nat} {sign last : Int} {σ : Nat → Nat} (h : Bar n A L k sign last σ) (hr : Rnd n (prm A σ) L2 k i j) (hk : k < n) : at2 L2 k k = at2 L k k := by
  rw [hr.rest k k (by omega) hk (by omega) hk (.inl rfl), h.at_ k k (by omega) hk (by omega) hk]
end Go.Ab
