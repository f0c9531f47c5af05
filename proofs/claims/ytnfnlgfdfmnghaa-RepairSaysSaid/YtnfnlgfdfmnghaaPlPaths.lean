/- Of ways that have no arc in common, and of what parts them (MENGER): the plain laws. -/
import Derived.Test.YtnfnlgfdfmnghaaPlSplit2
import Derived.Test.YtnfnlgfdfmnghaaPlStable
namespace Go.Ab
theorem usedOf_mem {es : List Arc} {k : Nat} : ∀ {l : List (Int × List Int)}, (∀ p ∈ l, PcOk es p) → ∀ q ∈ l, (k : Int) ∈ q.2 → q.1 ≤ usedOf k l
  | p :: r, h, q, hq, hk => by
    obtain ⟨x, y, hp⟩ := h p List.mem_cons_self
    have h1 := hp.a1
    have h2 := usedOf_nonneg (es := es) k (fun u hu => h u (List.mem_cons_of_mem _ hu))
    simp only [usedOf]
    rcases List.mem_cons.1 hq with rfl | hq
    · rw [if_pos hk]; omega
    · have := usedOf_mem (fun u hu => h u (List.mem_cons_of_mem _ hu)) q hq hk
      split <;> omega
structure Apart (es : List Arc) (s t : Int) (W : List (List Int)) : Prop where
  way : ∀ w ∈ W, isWay es w s t = true
  nd : W.flatten.Nodup
  inr : ∀ w ∈ W, ∀ k ∈ w, 0 ≤ k ∧ k < es.length
end Go.Ab
