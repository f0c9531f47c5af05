/- The abstract machine: a region that draws its order, where many orders come to few states: each set of operations that are done has one state. -/
import Derived.Test.YtcmaffldmodacaaFork
namespace Go.Ab
open Go
section
variable {P : Program} {T : Nat → Option TI} {K : Post} {s : St}
structure DagAcc where
  nx : List (Array Bool × St)
  es : List (St × St)
  cs : List (Nat × List Prop)
structure DagLe (a b : DagAcc) : Prop where
  nx : ∀ x ∈ a.nx, x ∈ b.nx
  es : ∀ x ∈ a.es, x ∈ b.es
  cs : ∀ x ∈ a.cs, x ∈ b.cs
theorem DagLe.refl (a : DagAcc) : DagLe a a := ⟨fun _ h => h, fun _ h => h, fun _ h => h⟩
theorem DagLe.trans {a b c : DagAcc} (h : DagLe a b) (h2 : DagLe b c) : DagLe a c := ⟨fun x q => h2.nx x (h.nx x q), fun x q => h2.es x (h.es x q), fun x q => h2.cs x (h.cs x q)⟩
/-- What a step out of (m, s) by i has left behind. -/
def DagArc (P : Program) (T : Nat → Option TI) (tab : Tab) (lent : Bool) (l : List Oper) (m : Array Bool) (s : St) (i : Nat) (b : DagAcc) : Prop :=
  ∃ c s' s0, stepAny P T tab lent l i s = some (c, s') ∧ (i, c) ∈ b.cs ∧ (m.setIfInBounds i true, s0) ∈ b.nx ∧ (s0 = s' ∨ (s0, s') ∈ b.es)
theorem DagArc.mono {tab : Tab} {lent : Bool} {l : List Oper} {m : Array Bool} {i : Nat} {a b : DagAcc} (h : DagArc P T tab lent l m s i a) (hab : DagLe a b) : DagArc P T tab lent l m s i b := by
  obtain ⟨c, s', s0, h1, h2, h3, h4⟩ := h
  exact ⟨c, s', s0, h1, hab.cs _ h2, hab.nx _ h3, h4.imp id (hab.es _)⟩
end
end Go.Ab
