/- What holds of the whole: the plain laws. -/
import Derived.Test.YtcmaffldmodacaaPlPaths
namespace Go.Ab
theorem works_err : netErr 3 0 2 [⟨0, 1, 4⟩, ⟨1, 2, 3⟩] = 0 := by decide
theorem works_parted : parted 3 0 2 [⟨0, 1, 4⟩, ⟨1, 2, 3⟩] = (3, 3, 3) := by decide
theorem works_most {g : List Int} {v : Int} (h : MostOk 3 0 2 [⟨0, 1, 4⟩, ⟨1, 2, 3⟩] (netErr 3 0 2 [⟨0, 1, 4⟩, ⟨1, 2, 3⟩]) g v) : v = 3 := by
  rcases h with ⟨q, _⟩ | ⟨_, _, _, q⟩
  · exact absurd works_err q
  · rw [q, works_parted]
end Go.Ab
