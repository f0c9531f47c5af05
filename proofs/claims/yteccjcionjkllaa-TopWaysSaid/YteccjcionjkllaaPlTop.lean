/- What holds of the whole: the plain laws. -/
import Derived.Test.YteccjcionjkllaaPlPaths
namespace Go.Ab
theorem works_err : netErr 3 0 2 [⟨0, 1, 4⟩, ⟨1, 2, 3⟩] = 0 := by decide
theorem works_parted : parted 3 0 2 [⟨0, 1, 4⟩, ⟨1, 2, 3⟩] = (3, 3, 3) := by decide
theorem works_most {g : List Int} {v : Int} (h : MostOk 3 0 2 [⟨0, 1, 4⟩, ⟨1, 2, 3⟩] (netErr 3 0 2 [⟨0, 1, 4⟩, ⟨1, 2, 3⟩]) g v) : v = 3 := by
  rcases h with ⟨q, _⟩ | ⟨_, _, _, q⟩
  · exact absurd works_err q
  · rw [q, works_parted]
theorem rest_GOk {n : Int} {es : List Arc} {bar : List Int} (h : GOk n es 0) : GOk n (restTo es bar es.length) (-10000) :=
  ⟨h.n1, h.n2, by have := restTo_len es bar es.length; have := h.len; omega, fun a ha => by
    obtain ⟨j, hj, rfl, _⟩ := restTo_mem ha
    obtain ⟨h1, h2, h3, h4, h5, h6⟩ := h.at_ hj
    exact ⟨h1, h2, h3, h4, by omega, h6⟩⟩
theorem farErr_of {n s : Int} {es : List Arc} (h : GOk n es (-10000)) (h0 : 0 ≤ s) (h1 : s < n) : farErr n es s = 0 := by
  rw [farErr, if_neg (by have := h.err; omega), if_neg (by omega)]
theorem far_none {n s t : Int} {es : List Arc} (h0 : 0 ≤ t) (h1 : t < n) (h : dist es s t = 1099511627776) : (farOf n es s).getD t.toNat 0 = -1 := by
  rw [farOf_at (by omega), farAt, Int.toNat_of_nonneg h0, h]; rfl
end Go.Ab
