/- Of what one may take, and of what must come: nets with a source and a sink of their own: the plain laws. -/
import Derived.Test.YteccjcionjkllaaPlA
import Derived.Test.YteccjcionjkllaaPlA
namespace Go.Ab
def closed (l : List Arc) (z : Int) : Bool := l.all fun a => !(decide (bit z a.src = 1) && decide (bit z a.dst = 0))
structure CloseOk (g : List Int) (l : List Arc) : Prop where
  len : g.length ≤ 10
  llen : l.length ≤ 30
  gain : ∀ x ∈ g, -1000 ≤ x ∧ x ≤ 1000
  arc : ∀ a ∈ l, 0 ≤ a.src ∧ a.src < g.length ∧ 0 ≤ a.dst ∧ a.dst < g.length
theorem parted_le {n s t : Int} {es : List Arc} (hg : GOk n es 0) {z : Int} (h : Parts n s t z) : (parted n s t es).1 ≤ capOf es z := by
  obtain ⟨z0, z1, z2, z3⟩ := h
  have hzn : ((z.toNat : Nat) : Int) = z := by omega
  rcases parted_fold (s := s) (t := t) hg (2 ^ n.toNat) with ⟨_, h2⟩ | ⟨_, h2⟩
  · exact absurd (by rw [hzn]; exact ⟨z2, z3⟩) (h2 z.toNat (by omega))
  · have := h2 z.toNat (by omega) (by rw [hzn]; exact z2) (by rw [hzn]; exact z3)
    rwa [hzn] at this
end Go.Ab
