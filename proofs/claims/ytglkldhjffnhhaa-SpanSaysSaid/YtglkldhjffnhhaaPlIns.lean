/- Of sorting by insertion: the plain laws. -/
import Derived.Test.YtglkldhjffnhhaaPlA
namespace Go.Ab
/-- An order, as a test of two: negative, if the first comes ahead. -/
structure CmpOk (c : Int → Int → Int) : Prop where
  asym : ∀ x y, c x y < 0 → ¬ c y x < 0
  trans : ∀ x y z, ¬ c y x < 0 → ¬ c z y < 0 → ¬ c z x < 0
end Go.Ab
