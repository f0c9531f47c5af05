/- Of a net that changes, and what went goes on: the plain laws that the walks ask for. -/
import Derived.Test.YtcmaffldmodacaaPlRepair
import Derived.Test.YtcmaffldmodacaaPlPaths
namespace Go.Ab
/-- What a change answers: an error and nothing, or the net that was wanted and a flow that is as much as can be. -/
def RepRes (n s t : Int) (es : List Arc) (x : Int) (N S T : Int) (A : List Arc) (g : List Int) (v e : Int) : Prop :=
  e = x ∧ ((x ≠ 0 ∧ N = 0 ∧ S = 0 ∧ T = 0 ∧ A = [] ∧ g = [] ∧ v = 0) ∨ (x = 0 ∧ N = n ∧ S = s ∧ T = t ∧ A = es ∧ FlOk n s t es g ∧ gone es g s = v ∧ v = (parted n s t es).1))
theorem RepRes.bad {n s t x : Int} {es : List Arc} (h : x ≠ 0) : RepRes n s t es x 0 0 0 [] [] 0 x := ⟨rfl, .inl ⟨h, rfl, rfl, rfl, rfl, rfl, rfl⟩⟩
theorem RepRes.good {n s t v : Int} {es : List Arc} {f g : List Int} (hf : FlOk n s t es f) (h : MostOk n s t es (flowErr n s t es f) g v) : RepRes n s t es 0 n s t es g v (flowErr n s t es f) := by
  have hE := flowErr_of hf hf.net.err
  rcases h with ⟨q, _⟩ | ⟨_, q1, q2, q3⟩
  · exact absurd hE q
  · exact ⟨hE, .inr ⟨rfl, rfl, rfl, rfl, rfl, q1, q2, q3⟩⟩
def addErr (n s t : Int) (es : List Arc) (f : List Int) (m u v : Int) (fs : List Arc) : Int := if repErr n s t es f ≠ 0 then repErr n s t es f else netErr m u v fs
theorem addErr_rep {n s t m u v : Int} {es fs : List Arc} {f : List Int} (h : repErr n s t es f ≠ 0) : addErr n s t es f m u v fs = repErr n s t es f := by rw [addErr, if_pos h]
theorem addErr_net {n s t m u v : Int} {es fs : List Arc} {f : List Int} (h : repErr n s t es f = 0) : addErr n s t es f m u v fs = netErr m u v fs := by rw [addErr, if_neg (by omega)]
theorem gone_nn {n s t : Int} {es : List Arc} {f : List Int} (hf : FlOk n s t es f) (h : gone es f s = (parted n s t es).1) : 0 ≤ gone es f s := by
  obtain ⟨z, hz⟩ := MinCut.exists_ hf.net
  rw [h, ← hz.2]
  exact (capOf_in hf.net.toGOk hz.1.1).1
end Go.Ab
namespace Go.Ab
end Go.Ab
namespace Go.Ab
end Go.Ab
