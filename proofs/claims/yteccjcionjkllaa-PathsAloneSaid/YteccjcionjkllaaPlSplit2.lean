/- Of a flow's pieces, taken off one behind the other: the plain laws. -/
import Derived.Test.YteccjcionjkllaaPlSplit
import Derived.Test.YteccjcionjkllaaPlA
namespace Go.Ab
theorem sorted_strict {l : List Int} (hn : l.Nodup) (i : Nat) (h : i + 1 < (sorted l).length) : (sorted l).getD i 0 ≠ (sorted l).getD (i + 1) 0 :=
  nodup_at (hn.perm (sorted_perm l).symm) (by omega) h
def PcOk (es : List Arc) (p : Int × List Int) : Prop := ∃ x y, Pc es p x y
theorem usedOf_nonneg {es : List Arc} (k : Nat) : ∀ {l : List (Int × List Int)}, (∀ p ∈ l, PcOk es p) → 0 ≤ usedOf k l
  | [], _ => by simp [usedOf]
  | p :: r, h => by
    obtain ⟨x, y, hp⟩ := h p List.mem_cons_self
    have h1 := hp.a1
    have h2 := usedOf_nonneg k (fun q hq => h q (List.mem_cons_of_mem _ hq))
    simp only [usedOf]
    split <;> omega
end Go.Ab
