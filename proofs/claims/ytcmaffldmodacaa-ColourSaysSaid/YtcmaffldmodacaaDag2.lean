/- The abstract machine: a region that draws its order, where many orders come to few states; what may be taken first is taken first. -/
import Derived.Test.YtcmaffldmodacaaDag
namespace Go.Ab
open Go
section
variable {P : Program} {T : Nat → Option TI} {K : Post} {s : St}
def dagIns (m : Array Bool) (i : Nat) (c : List Prop) (s' : St) (acc : DagAcc) : DagAcc :=
  match findM (m.setIfInBounds i true).toList acc.nx with
  | some s0 => ⟨acc.nx, (s0, s') :: acc.es, (i, c) :: acc.cs⟩
  | none => ⟨(m.setIfInBounds i true, s') :: acc.nx, acc.es, (i, c) :: acc.cs⟩
theorem dagIns_ok (m : Array Bool) (i : Nat) (c : List Prop) (s' : St) (acc : DagAcc) : DagLe acc (dagIns m i c s' acc) ∧ (i, c) ∈ (dagIns m i c s' acc).cs ∧ ∃ s0, (m.setIfInBounds i true, s0) ∈ (dagIns m i c s' acc).nx ∧ (s0 = s' ∨ (s0, s') ∈ (dagIns m i c s' acc).es) := by
  unfold dagIns
  split
  · rename_i s0 hf
    exact ⟨⟨fun _ q => q, fun _ q => List.mem_cons_of_mem _ q, fun _ q => List.mem_cons_of_mem _ q⟩, List.mem_cons_self, s0, findM_some hf, .inr List.mem_cons_self⟩
  · exact ⟨⟨fun _ q => List.mem_cons_of_mem _ q, fun _ q => q, fun _ q => List.mem_cons_of_mem _ q⟩, List.mem_cons_self, s', List.mem_cons_self, .inl rfl⟩
def dagLevel2 (P : Program) (T : Nat → Option TI) (tab : Tab) (lent : Bool) (l : List Oper) : List (Array Bool × St) → DagAcc → Option DagAcc
  | [], acc => some acc
  | (m, s) :: r, acc => (match Region.ready .any l.toArray m with
    | [] => none
    | j :: q => (match firstU T l.toArray m s (j :: q) with
      | some (i, c, s') => dagLevel2 P T tab lent l r (dagIns m i c s' acc)
      | none => (match dagOps P T tab lent l m s (j :: q) acc with
        | some acc' => dagLevel2 P T tab lent l r acc'
        | none => none)))
def dagGo2 (P : Program) (T : Nat → Option TI) (tab : Tab) (lent : Bool) (l : List Oper) : Nat → DagAcc → Option DagAcc
  | 0, acc => some acc
  | k + 1, acc => (match dagLevel2 P T tab lent l acc.nx ⟨[], acc.es, acc.cs⟩ with
    | some acc' => dagGo2 P T tab lent l k acc'
    | none => none)
def DagNode (P : Program) (T : Nat → Option TI) (tab : Tab) (lent : Bool) (l : List Oper) (m : Array Bool) (s : St) (b : DagAcc) : Prop :=
  (Region.ready .any l.toArray m ≠ [] ∧ ∀ i ∈ Region.ready .any l.toArray m, DagArc P T tab lent l m s i b) ∨
  (∃ i c s' s0, firstU T l.toArray m s (Region.ready .any l.toArray m) = some (i, c, s') ∧ (i, c) ∈ b.cs ∧ (m.setIfInBounds i true, s0) ∈ b.nx ∧ (s0 = s' ∨ (s0, s') ∈ b.es))
theorem dagLevel2_sound {tab : Tab} {lent : Bool} {l : List Oper} : ∀ (lv : List (Array Bool × St)) (a b : DagAcc), dagLevel2 P T tab lent l lv a = some b → DagLe a b ∧ ∀ x ∈ lv, DagNode P T tab lent l x.1 x.2 b
  | [], a, b, h => by
    unfold dagLevel2 at h
    cases h
    exact ⟨.refl _, fun x hx => by cases hx⟩
  | (m, s) :: r, a, b, h => by
    unfold dagLevel2 at h
    split at h
    · cases h
    · rename_i j q hrd
      split at h
      · rename_i i c s' hf
        obtain ⟨h1, h2, s0, h5, h6⟩ := dagIns_ok m i c s' a
        obtain ⟨h3, h4⟩ := dagLevel2_sound r _ _ h
        refine ⟨h1.trans h3, fun x hx => ?_⟩
        rcases List.mem_cons.1 hx with rfl | hx
        · exact .inr ⟨i, c, s', s0, by rw [hrd]; exact hf, h3.cs _ h2, h3.nx _ h5, h6.imp id (h3.es _)⟩
        · exact h4 x hx
      · split at h
        · rename_i c hc
          obtain ⟨h1, h2⟩ := dagOps_sound _ _ _ hc
          obtain ⟨h3, h4⟩ := dagLevel2_sound r _ _ h
          refine ⟨h1.trans h3, fun x hx => ?_⟩
          rcases List.mem_cons.1 hx with rfl | hx
          · refine .inl ⟨fun h0 => (by rw [hrd] at h0; cases h0), fun i hi => ?_⟩
            rw [hrd] at hi
            exact (h2 i hi).mono h3
          · exact h4 x hx
        · cases h
theorem dagGo2_le {tab : Tab} {lent : Bool} {l : List Oper} : ∀ (k : Nat) (a b : DagAcc), dagGo2 P T tab lent l k a = some b → (∀ x ∈ a.es, x ∈ b.es) ∧ ∀ x ∈ a.cs, x ∈ b.cs
  | 0, a, b, h => by
    unfold dagGo2 at h
    cases h
    exact ⟨fun _ q => q, fun _ q => q⟩
  | k + 1, a, b, h => by
    unfold dagGo2 at h
    split at h
    · rename_i c hc
      obtain ⟨h1, _⟩ := dagLevel2_sound _ _ _ hc
      obtain ⟨h2, h3⟩ := dagGo2_le k _ _ h
      exact ⟨fun x q => h2 x (h1.es x q), fun x q => h3 x (h1.cs x q)⟩
    · cases h
theorem dagGo2_sound {tab : Tab} {lent : Bool} {l : List Oper} {n : Nat} (hT : ∀ t i, T t = some i → TF P t i) (hsel : Region.noSelect l.toArray = true) : ∀ (k : Nat) (a b : DagAcc), dagGo2 P T tab lent l k a = some b → (∀ x ∈ b.es, x.1 = x.2) → (∀ x ∈ b.cs, AllP x.2) → (∀ x ∈ b.nx, AAny P l K n x.1 x.2) → ∀ x ∈ a.nx, AAny P l K (n + k) x.1 x.2
  | 0, a, b, h, _, _, hq => by
    unfold dagGo2 at h
    cases h
    exact hq
  | k + 1, a, b, h, he, hc, hq => by
    intro x hx
    unfold dagGo2 at h
    split at h
    · rename_i c hlv
      have ih := dagGo2_sound hT hsel k _ _ h he hc hq
      obtain ⟨_, h2⟩ := dagLevel2_sound _ _ _ hlv
      obtain ⟨hle1, hle2⟩ := dagGo2_le k _ _ h
      rcases h2 x hx with ⟨hne, harc⟩ | ⟨i, cs, s', s0, hf, hcs, hnx, hs0⟩
      · refine ⟨fun M0 M a he' hr => ⟨fun h0 => (hne h0).elim, fun i hi => ?_⟩⟩
        obtain ⟨cs, s', s0, hst, hcs, hnx, hs0⟩ := harc i hi
        have hs : s0 = s' := hs0.elim id fun q => he _ (hle1 _ q)
        subst hs
        exact stepAny_sound hT hst (hc _ (hle2 _ hcs)) hr fun M' a' he2 hr2 => (ih _ hnx).run M0 M' a' (he'.trans he2) hr2
      · have hs : s0 = s' := hs0.elim id fun q => he _ (hle1 _ q)
        subst hs
        obtain ⟨hi, o, ho, hfree, g, c1, v, hg, g1, g2, g3⟩ := firstU_sound hf
        refine ⟨fun M0 M a he' hr => ?_⟩
        obtain ⟨u, hyl, hr1⟩ := first_yields (P := P) hT hg g1 g2 g3 (hc _ (hle2 _ hcs)) hr
        exact wpAny_first ho (Region.noSelect_spec hsel) (fun c a w h => by cases h.1) (n + k) x.1 a M.w (Region.free_spec ho hfree) hi hyl ((ih _ hnx).run M0 M _ he' hr1)
    · cases h
theorem aany_dag2 {l : List Oper} {n : Nat} {listed L : Array Bool} {s' : St} (tab : Tab) (lent : Bool) (k : Nat) (ks hs : List Nat) (cds : List (Nat × List Prop)) (hT : ∀ t i, T t = some i → TF P t i) (hsel : Region.noSelect l.toArray = true)
    (h : dagFin ks hs (dagGo2 P T tab lent l k ⟨[(listed, s)], [], []⟩) = some (L, s')) (he : dagL (dagGo2 P T tab lent l k ⟨[(listed, s)], [], []⟩) = dagR (dagGo2 P T tab lent l k ⟨[(listed, s)], [], []⟩))
    (hd : dagC (dagGo2 P T tab lent l k ⟨[(listed, s)], [], []⟩) = dagD cds (dagGo2 P T tab lent l k ⟨[(listed, s)], [], []⟩)) (hc : AllC cds) (hk : AAny P l K n L s') : AAny P l K (n + k) listed s := by
  revert h he hd
  generalize hg : dagGo2 P T tab lent l k ⟨[(listed, s)], [], []⟩ = q
  intro h he hd
  match q, hg, h, he, hd with
  | none, _, h, _, _ => cases h
  | some ⟨[(m, sf)], es, cs⟩, hg, h, he, hd =>
    simp only [dagFin, Option.some.injEq, Prod.mk.injEq] at h
    obtain ⟨rfl, rfl⟩ := h
    exact dagGo2_sound hT hsel k _ _ hg (fun x hx => map_eq_mem he x hx) (fun x hx => by rw [map_eq_mem hd x hx]; exact lookD_all hc) (fun x hx => by
      rw [List.mem_singleton.1 hx]
      exact aany_weak (awk_cut ks hs _) hk) (listed, s) List.mem_cons_self
  | some ⟨[], _, _⟩, _, h, _, _ => cases h
  | some ⟨_ :: _ :: _, _, _⟩, _, h, _, _ => cases h
end
end Go.Ab
