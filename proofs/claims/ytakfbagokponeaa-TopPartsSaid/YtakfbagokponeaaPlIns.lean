/- Of sorting by insertion: the plain laws. -/
import Derived.Test.YtakfbagokponeaaPlA
namespace Go.Ab
structure CmpOk (c : Int → Int → Int) : Prop where
  asym : ∀ x y, c x y < 0 → ¬ c y x < 0
  trans : ∀ x y z, ¬ c y x < 0 → ¬ c z y < 0 → ¬ c z x < 0
end Go.Ab
