/- The abstract machine: a region that draws its order, where many orders come to few states; what may be taken first is taken first. -/
import Derived.Test.YtcmaffldmodacaaDag
namespace Go.Ab
open Go
section
variable {P : Program} {T : Nat → Option TI} {K : Post} {s : St}
/-- How one goes on from (m, s). -/
def DagNode (P : Program) (T : Nat → Option TI) (tab : Tab) (lent : Bool) (l : List Oper) (m : Array Bool) (s : St) (b : DagAcc) : Prop :=
  (Region.ready .any l.toArray m ≠ [] ∧ ∀ i ∈ Region.ready .any l.toArray m, DagArc P T tab lent l m s i b) ∨
  (∃ i c s' s0, firstU T l.toArray m s (Region.ready .any l.toArray m) = some (i, c, s') ∧ (i, c) ∈ b.cs ∧ (m.setIfInBounds i true, s0) ∈ b.nx ∧ (s0 = s' ∨ (s0, s') ∈ b.es))
theorem DagNode.mono {tab : Tab} {lent : Bool} {l : List Oper} {m : Array Bool} {a b : DagAcc} (h : DagNode P T tab lent l m s a) (hab : DagLe a b) : DagNode P T tab lent l m s b := by
  rcases h with ⟨h1, h2⟩ | ⟨i, c, s', s0, h1, h2, h3, h4⟩
  · exact .inl ⟨h1, fun i hi => (h2 i hi).mono hab⟩
  · exact .inr ⟨i, c, s', s0, h1, hab.cs _ h2, hab.nx _ h3, h4.imp id (hab.es _)⟩
end
end Go.Ab
