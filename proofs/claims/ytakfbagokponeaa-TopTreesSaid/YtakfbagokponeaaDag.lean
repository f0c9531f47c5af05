/- The abstract machine: a region that draws its order, where many orders come to few states: each set of operations that are done has one state. -/
import Derived.Test.YtakfbagokponeaaFork
namespace Go.Ab
open Go
section
variable {P : Program} {T : Nat → Option TI} {K : Post} {s : St}
def findM (m : List Bool) : List (Array Bool × St) → Option St
  | [] => none
  | (x, s) :: r => cond (eqBs x.toList m) (some s) (findM m r)
structure DagAcc where
  nx : List (Array Bool × St)
  es : List (St × St)
  cs : List (Nat × List Prop)
def dagOps (P : Program) (T : Nat → Option TI) (tab : Tab) (lent : Bool) (l : List Oper) (m : Array Bool) (s : St) : List Nat → DagAcc → Option DagAcc
  | [], acc => some acc
  | i :: r, acc => (match stepAny P T tab lent l i s with
    | none => none
    | some (c, s') => (match findM (m.setIfInBounds i true).toList acc.nx with
      | some s0 => dagOps P T tab lent l m s r ⟨acc.nx, (s0, s') :: acc.es, (i, c) :: acc.cs⟩
      | none => dagOps P T tab lent l m s r ⟨(m.setIfInBounds i true, s') :: acc.nx, acc.es, (i, c) :: acc.cs⟩))
def dagLevel (P : Program) (T : Nat → Option TI) (tab : Tab) (lent : Bool) (l : List Oper) : List (Array Bool × St) → DagAcc → Option DagAcc
  | [], acc => some acc
  | (m, s) :: r, acc => (match Region.ready .any l.toArray m with
    | [] => none
    | j :: q => (match dagOps P T tab lent l m s (j :: q) acc with
      | some acc' => dagLevel P T tab lent l r acc'
      | none => none))
def dagGo (P : Program) (T : Nat → Option TI) (tab : Tab) (lent : Bool) (l : List Oper) : Nat → DagAcc → Option DagAcc
  | 0, acc => some acc
  | k + 1, acc => (match dagLevel P T tab lent l acc.nx ⟨[], acc.es, acc.cs⟩ with
    | some acc' => dagGo P T tab lent l k acc'
    | none => none)
def lookD (cds : List (Nat × List Prop)) (i : Nat) : List Prop :=
  match cds with
  | [] => []
  | (k, c) :: r => cond (Nat.beq k i) c (lookD r i)
theorem lookD_all {i : Nat} : ∀ {cds : List (Nat × List Prop)}, AllC cds → AllP (lookD cds i)
  | [], _ => trivial
  | (k, c) :: r, h => by
    unfold lookD
    cases Nat.beq k i
    · exact lookD_all h.2
    · exact h.1
structure DagLe (a b : DagAcc) : Prop where
  nx : ∀ x ∈ a.nx, x ∈ b.nx
  es : ∀ x ∈ a.es, x ∈ b.es
  cs : ∀ x ∈ a.cs, x ∈ b.cs
theorem DagLe.refl (a : DagAcc) : DagLe a a := ⟨fun _ h => h, fun _ h => h, fun _ h => h⟩
theorem DagLe.trans {a b c : DagAcc} (h : DagLe a b) (h2 : DagLe b c) : DagLe a c := ⟨fun x q => h2.nx x (h.nx x q), fun x q => h2.es x (h.es x q), fun x q => h2.cs x (h.cs x q)⟩
theorem findM_some {m : Array Bool} : ∀ {l : List (Array Bool × St)} {s0 : St}, findM m.toList l = some s0 → (m, s0) ∈ l
  | [], _, h => by cases h
  | (x, s) :: r, s0, h => by
    unfold findM at h
    cases he : eqBs x.toList m.toList with
    | true =>
      rw [he] at h
      cases h
      rw [Array.toList_inj.1 (eqBs_eq he)]
      exact List.mem_cons_self
    | false =>
      rw [he] at h
      exact List.mem_cons_of_mem _ (findM_some h)
def DagArc (P : Program) (T : Nat → Option TI) (tab : Tab) (lent : Bool) (l : List Oper) (m : Array Bool) (s : St) (i : Nat) (b : DagAcc) : Prop :=
  ∃ c s' s0, stepAny P T tab lent l i s = some (c, s') ∧ (i, c) ∈ b.cs ∧ (m.setIfInBounds i true, s0) ∈ b.nx ∧ (s0 = s' ∨ (s0, s') ∈ b.es)
theorem DagArc.mono {tab : Tab} {lent : Bool} {l : List Oper} {m : Array Bool} {i : Nat} {a b : DagAcc} (h : DagArc P T tab lent l m s i a) (hab : DagLe a b) : DagArc P T tab lent l m s i b := by
  obtain ⟨c, s', s0, h1, h2, h3, h4⟩ := h
  exact ⟨c, s', s0, h1, hab.cs _ h2, hab.nx _ h3, h4.imp id (hab.es _)⟩
theorem dagOps_sound {tab : Tab} {lent : Bool} {l : List Oper} {m : Array Bool} : ∀ (r : List Nat) (a b : DagAcc), dagOps P T tab lent l m s r a = some b → DagLe a b ∧ ∀ i ∈ r, DagArc P T tab lent l m s i b
  | [], a, b, h => by
    unfold dagOps at h
    cases h
    exact ⟨.refl _, fun i hi => by cases hi⟩
  | i :: r, a, b, h => by
    unfold dagOps at h
    split at h
    · cases h
    · rename_i c s' hst
      split at h
      · rename_i s0 hf
        obtain ⟨h1, h2⟩ := dagOps_sound r _ _ h
        have hle : DagLe a ⟨a.nx, (s0, s') :: a.es, (i, c) :: a.cs⟩ := ⟨fun _ q => q, fun _ q => List.mem_cons_of_mem _ q, fun _ q => List.mem_cons_of_mem _ q⟩
        refine ⟨hle.trans h1, fun j hj => ?_⟩
        rcases List.mem_cons.1 hj with rfl | hj
        · exact ⟨c, s', s0, hst, h1.cs _ List.mem_cons_self, h1.nx _ (findM_some hf), .inr (h1.es _ List.mem_cons_self)⟩
        · exact h2 j hj
      · obtain ⟨h1, h2⟩ := dagOps_sound r _ _ h
        have hle : DagLe a ⟨(m.setIfInBounds i true, s') :: a.nx, a.es, (i, c) :: a.cs⟩ := ⟨fun _ q => List.mem_cons_of_mem _ q, fun _ q => q, fun _ q => List.mem_cons_of_mem _ q⟩
        refine ⟨hle.trans h1, fun j hj => ?_⟩
        rcases List.mem_cons.1 hj with rfl | hj
        · exact ⟨c, s', s', hst, h1.cs _ List.mem_cons_self, h1.nx _ List.mem_cons_self, .inl rfl⟩
        · exact h2 j hj
theorem dagLevel_sound {tab : Tab} {lent : Bool} {l : List Oper} : ∀ (lv : List (Array Bool × St)) (a b : DagAcc), dagLevel P T tab lent l lv a = some b → DagLe a b ∧ ∀ x ∈ lv, Region.ready .any l.toArray x.1 ≠ [] ∧ ∀ i ∈ Region.ready .any l.toArray x.1, DagArc P T tab lent l x.1 x.2 i b
  | [], a, b, h => by
    unfold dagLevel at h
    cases h
    exact ⟨.refl _, fun x hx => by cases hx⟩
  | (m, s) :: r, a, b, h => by
    unfold dagLevel at h
    split at h
    · cases h
    · rename_i j q hrd
      split at h
      · rename_i c hc
        obtain ⟨h1, h2⟩ := dagOps_sound _ _ _ hc
        obtain ⟨h3, h4⟩ := dagLevel_sound r _ _ h
        refine ⟨h1.trans h3, fun x hx => ?_⟩
        rcases List.mem_cons.1 hx with rfl | hx
        · refine ⟨fun h0 => (by rw [hrd] at h0; cases h0), fun i hi => ?_⟩
          rw [hrd] at hi
          exact (h2 i hi).mono h3
        · exact h4 x hx
      · cases h
theorem dagGo_le {tab : Tab} {lent : Bool} {l : List Oper} : ∀ (k : Nat) (a b : DagAcc), dagGo P T tab lent l k a = some b → (∀ x ∈ a.es, x ∈ b.es) ∧ ∀ x ∈ a.cs, x ∈ b.cs
  | 0, a, b, h => by
    unfold dagGo at h
    cases h
    exact ⟨fun _ q => q, fun _ q => q⟩
  | k + 1, a, b, h => by
    unfold dagGo at h
    split at h
    · rename_i c hc
      obtain ⟨h1, _⟩ := dagLevel_sound _ _ _ hc
      obtain ⟨h2, h3⟩ := dagGo_le k _ _ h
      exact ⟨fun x q => h2 x (h1.es x q), fun x q => h3 x (h1.cs x q)⟩
    · cases h
theorem dagGo_sound {tab : Tab} {lent : Bool} {l : List Oper} {n : Nat} (hT : ∀ t i, T t = some i → TF P t i) : ∀ (k : Nat) (a b : DagAcc), dagGo P T tab lent l k a = some b → (∀ x ∈ b.es, x.1 = x.2) → (∀ x ∈ b.cs, AllP x.2) → (∀ x ∈ b.nx, AAny P l K n x.1 x.2) → ∀ x ∈ a.nx, AAny P l K (n + k) x.1 x.2
  | 0, a, b, h, _, _, hq => by
    unfold dagGo at h
    cases h
    exact hq
  | k + 1, a, b, h, he, hc, hq => by
    intro x hx
    unfold dagGo at h
    split at h
    · rename_i c hlv
      have ih := dagGo_sound hT k _ _ h he hc hq
      obtain ⟨_, h2⟩ := dagLevel_sound _ _ _ hlv
      obtain ⟨hle1, hle2⟩ := dagGo_le k _ _ h
      obtain ⟨hne, harc⟩ := h2 x hx
      refine ⟨fun M0 M a he' hr => ⟨fun h0 => (hne h0).elim, fun i hi => ?_⟩⟩
      obtain ⟨cs, s', s0, hst, hcs, hnx, hs0⟩ := harc i hi
      have hs : s0 = s' := hs0.elim id fun q => he _ (hle1 _ q)
      subst hs
      exact stepAny_sound hT hst (hc _ (hle2 _ hcs)) hr fun M' a' he2 hr2 => (ih _ hnx).run M0 M' a' (he'.trans he2) hr2
    · cases h
def dagFin (ks hs : List Nat) : Option DagAcc → Option (Array Bool × St)
  | some ⟨[(m, s)], _, _⟩ => some (m, cutS ks hs s)
  | _ => none
def dagL : Option DagAcc → List St
  | some a => a.es.map (·.1)
  | none => []
def dagR : Option DagAcc → List St
  | some a => a.es.map (·.2)
  | none => []
def dagC : Option DagAcc → List (List Prop)
  | some a => a.cs.map (·.2)
  | none => []
def dagD (cds : List (Nat × List Prop)) : Option DagAcc → List (List Prop)
  | some a => a.cs.map fun x => lookD cds x.1
  | none => []
theorem map_eq_mem {α β : Type _} {f g : α → β} : ∀ {l : List α}, l.map f = l.map g → ∀ x ∈ l, f x = g x
  | [], _, x, hx => by cases hx
  | y :: r, h, x, hx => by
    simp only [List.map_cons, List.cons.injEq] at h
    rcases List.mem_cons.1 hx with rfl | hx
    · exact h.1
    · exact map_eq_mem h.2 x hx
theorem aany_dag {l : List Oper} {n : Nat} {listed L : Array Bool} {s' : St} (tab : Tab) (lent : Bool) (k : Nat) (ks hs : List Nat) (cds : List (Nat × List Prop)) (hT : ∀ t i, T t = some i → TF P t i)
    (h : dagFin ks hs (dagGo P T tab lent l k ⟨[(listed, s)], [], []⟩) = some (L, s')) (he : dagL (dagGo P T tab lent l k ⟨[(listed, s)], [], []⟩) = dagR (dagGo P T tab lent l k ⟨[(listed, s)], [], []⟩))
    (hd : dagC (dagGo P T tab lent l k ⟨[(listed, s)], [], []⟩) = dagD cds (dagGo P T tab lent l k ⟨[(listed, s)], [], []⟩)) (hc : AllC cds) (hk : AAny P l K n L s') : AAny P l K (n + k) listed s := by
  revert h he hd
  generalize hg : dagGo P T tab lent l k ⟨[(listed, s)], [], []⟩ = q
  intro h he hd
  match q, hg, h, he, hd with
  | none, _, h, _, _ => cases h
  | some ⟨[(m, sf)], es, cs⟩, hg, h, he, hd =>
    simp only [dagFin, Option.some.injEq, Prod.mk.injEq] at h
    obtain ⟨rfl, rfl⟩ := h
    exact dagGo_sound hT k _ _ hg (fun x hx => map_eq_mem he x hx) (fun x hx => by rw [map_eq_mem hd x hx]; exact lookD_all hc) (fun x hx => by
      rw [List.mem_singleton.1 hx]
      exact aany_weak (awk_cut ks hs _) hk) (listed, s) List.mem_cons_self
  | some ⟨[], _, _⟩, _, h, _, _ => cases h
  | some ⟨_ :: _ :: _, _, _⟩, _, h, _, _ => cases h
end
end Go.Ab
