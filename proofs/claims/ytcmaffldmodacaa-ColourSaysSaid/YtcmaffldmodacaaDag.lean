/- The abstract machine: a region that draws its order, where many orders come to few states: each set of operations that are done has one state. -/
import Derived.Test.YtcmaffldmodacaaFork
namespace Go.Ab
open Go
section
variable {P : Program} {T : Nat → Option TI} {K : Post} {s : St}
def findM (m : List Bool) : List (Array Bool × St) → Option St
  | [] => none
  | (x, s) :: r => cond (eqBs x.toList m) (some s) (findM m r)
structure DagAcc where
  nx : List (Array Bool × St)
  es : List (St × St)
  cs : List (Nat × List Prop)
def dagOps (P : Program) (T : Nat → Option TI) (tab : Tab) (lent : Bool) (l : List Oper) (m : Array Bool) (s : St) : List Nat → DagAcc → Option DagAcc
  | [], acc => some acc
  | i :: r, acc => (match stepAny P T tab lent l i s with
    | none => none
    | some (c, s') => (match findM (m.setIfInBounds i true).toList acc.nx with
      | some s0 => dagOps P T tab lent l m s r ⟨acc.nx, (s0, s') :: acc.es, (i, c) :: acc.cs⟩
      | none => dagOps P T tab lent l m s r ⟨(m.setIfInBounds i true, s') :: acc.nx, acc.es, (i, c) :: acc.cs⟩))
def lookD (cds : List (Nat × List Prop)) (i : Nat) : List Prop :=
  match cds with
  | [] => []
  | (k, c) :: r => cond (Nat.beq k i) c (lookD r i)
theorem lookD_all {i : Nat} : ∀ {cds : List (Nat × List Prop)}, AllC cds → AllP (lookD cds i)
  | [], _ => trivial
  | (k, c) :: r, h => by
    unfold lookD
    cases Nat.beq k i
    · exact lookD_all h.2
    · exact h.1
structure DagLe (a b : DagAcc) : Prop where
  nx : ∀ x ∈ a.nx, x ∈ b.nx
  es : ∀ x ∈ a.es, x ∈ b.es
  cs : ∀ x ∈ a.cs, x ∈ b.cs
theorem DagLe.refl (a : DagAcc) : DagLe a a := ⟨fun _ h => h, fun _ h => h, fun _ h => h⟩
theorem DagLe.trans {a b c : DagAcc} (h : DagLe a b) (h2 : DagLe b c) : DagLe a c := ⟨fun x q => h2.nx x (h.nx x q), fun x q => h2.es x (h.es x q), fun x q => h2.cs x (h.cs x q)⟩
theorem findM_some {m : Array Bool} : ∀ {l : List (Array Bool × St)} {s0 : St}, findM m.toList l = some s0 → (m, s0) ∈ l
  | [], _, h => by cases h
  | (x, s) :: r, s0, h => by
    unfold findM at h
    cases he : eqBs x.toList m.toList with
    | true =>
      rw [he] at h
      cases h
      rw [Array.toList_inj.1 (eqBs_eq he)]
      exact List.mem_cons_self
    | false =>
      rw [he] at h
      exact List.mem_cons_of_mem _ (findM_some h)
def DagArc (P : Program) (T : Nat → Option TI) (tab : Tab) (lent : Bool) (l : List Oper) (m : Array Bool) (s : St) (i : Nat) (b : DagAcc) : Prop :=
  ∃ c s' s0, stepAny P T tab lent l i s = some (c, s') ∧ (i, c) ∈ b.cs ∧ (m.setIfInBounds i true, s0) ∈ b.nx ∧ (s0 = s' ∨ (s0, s') ∈ b.es)
theorem DagArc.mono {tab : Tab} {lent : Bool} {l : List Oper} {m : Array Bool} {i : Nat} {a b : DagAcc} (h : DagArc P T tab lent l m s i a) (hab : DagLe a b) : DagArc P T tab lent l m s i b := by
  obtain ⟨c, s', s0, h1, h2, h3, h4⟩ := h
  exact ⟨c, s', s0, h1, hab.cs _ h2, hab.nx _ h3, h4.imp id (hab.es _)⟩
theorem dagOps_sound {tab : Tab} {lent : Bool} {l : List Oper} {m : Array Bool} : ∀ (r : List Nat) (a b : DagAcc), dagOps P T tab lent l m s r a = some b → DagLe a b ∧ ∀ i ∈ r, DagArc P T tab lent l m s i b
  | [], a, b, h => by
    unfold dagOps at h
    cases h
    exact ⟨.refl _, fun i hi => by cases hi⟩
  | i :: r, a, b, h => by
    unfold dagOps at h
    split at h
    · cases h
    · rename_i c s' hst
      split at h
      · rename_i s0 hf
        obtain ⟨h1, h2⟩ := dagOps_sound r _ _ h
        have hle : DagLe a ⟨a.nx, (s0, s') :: a.es, (i, c) :: a.cs⟩ := ⟨fun _ q => q, fun _ q => List.mem_cons_of_mem _ q, fun _ q => List.mem_cons_of_mem _ q⟩
        refine ⟨hle.trans h1, fun j hj => ?_⟩
        rcases List.mem_cons.1 hj with rfl | hj
        · exact ⟨c, s', s0, hst, h1.cs _ List.mem_cons_self, h1.nx _ (findM_some hf), .inr (h1.es _ List.mem_cons_self)⟩
        · exact h2 j hj
      · obtain ⟨h1, h2⟩ := dagOps_sound r _ _ h
        have hle : DagLe a ⟨(m.setIfInBounds i true, s') :: a.nx, a.es, (i, c) :: a.cs⟩ := ⟨fun _ q => List.mem_cons_of_mem _ q, fun _ q => q, fun _ q => List.mem_cons_of_mem _ q⟩
        refine ⟨hle.trans h1, fun j hj => ?_⟩
        rcases List.mem_cons.1 hj with rfl | hj
        · exact ⟨c, s', s', hst, h1.cs _ List.mem_cons_self, h1.nx _ List.mem_cons_self, .inl rfl⟩
        · exact h2 j hj
def dagFin (ks hs : List Nat) : Option DagAcc → Option (Array Bool × St)
  | some ⟨[(m, s)], _, _⟩ => some (m, cutS ks hs s)
  | _ => none
def dagL : Option DagAcc → List St
  | some a => a.es.map (·.1)
  | none => []
def dagR : Option DagAcc → List St
  | some a => a.es.map (·.2)
  | none => []
def dagC : Option DagAcc → List (List Prop)
  | some a => a.cs.map (·.2)
  | none => []
def dagD (cds : List (Nat × List Prop)) : Option DagAcc → List (List Prop)
  | some a => a.cs.map fun x => lookD cds x.1
  | none => []
theorem map_eq_mem {α β : Type _} {f g : α → β} : ∀ {l : List α}, l.map f = l.map g → ∀ x ∈ l, f x = g x
  | [], _, x, hx => by cases hx
  | y :: r, h, x, hx => by
    simp only [List.map_cons, List.cons.injEq] at h
    rcases List.mem_cons.1 hx with rfl | hx
    · exact h.1
    · exact map_eq_mem h.2 x hx
end
end Go.Ab
