/- Of a flow's pieces, taken off one behind the other: the plain laws. -/
import Derived.Test.YtcmaffldmodacaaPlSplit
import Derived.Test.YtcmaffldmodacaaPlA
namespace Go.Ab
def PcOk (es : List Arc) (p : Int × List Int) : Prop := ∃ x y, Pc es p x y
theorem usedOf_nonneg {es : List Arc} (k : Nat) : ∀ {l : List (Int × List Int)}, (∀ p ∈ l, PcOk es p) → 0 ≤ usedOf k l
  | [], _ => by simp [usedOf]
  | p :: r, h => by
    obtain ⟨x, y, hp⟩ := h p List.mem_cons_self
    have h1 := hp.a1
    have h2 := usedOf_nonneg k (fun q hq => h q (List.mem_cons_of_mem _ hq))
    simp only [usedOf]
    split <;> omega
end Go.Ab
