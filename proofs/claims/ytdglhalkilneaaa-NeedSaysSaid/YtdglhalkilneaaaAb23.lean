/- The abstract machine, part 23: a region that draws its order, taken in parts: calls of which not all is known. -/
import Derived.Test.YtdglhalkilneaaaAb22
namespace Go.Ab
open Go
section
variable {P : Program} {T : Nat → Option TI} {K : Post} {s : St}
/-- What is left of the region, from these operations on. -/
structure AAny (P : Program) (l : List Oper) (K : Post) (n : Nat) (listed : Array Bool) (s : St) : Prop where
  run : ∀ (M0 M : Mem) (a : Act), Ext big M0 M → Rel M s a → wpAny P .any l.toArray (QN (Qc K M0)) n listed a M.w
/-- The first m operations, in any order. -/
def calmCut3 (P : Program) (T : Nat → Option TI) (tab : Tab) (lent : Bool) (l : List Oper) (cls : List (List Nat)) (m : Nat) (ks hs : List Nat) (s : St) : Option (Bool × List (Nat × List Prop) × St) :=
  match run2 P T tab lent l cls s (l.take m) 0 [] with
  | some (cds, es) => some (entsOk cls s es, cds, cutS ks hs ⟨s.n, insAll (valsOf es) s.tm, hpAll es s.hp⟩)
  | none => none
theorem aany_weak {l : List Oper} {n : Nat} {listed : Array Bool} {s' : St} (hw : AWk s s') (hk : AAny P l K n listed s') : AAny P l K n listed s := ⟨fun M0 M a he hr => by
  obtain ⟨M', h1, h2, h3⟩ := hw M a hr
  rw [← h2]
  exact hk.run M0 M' a (he.trans h3) h1⟩
theorem awp_calm3 {id : Nat} {l : List Oper} (tab : Tab) (lent : Bool) (cls : List (List Nat)) (m n : Nat) (L : Array Bool) (ks hs : List Nat) (cds : List (Nat × List Prop)) (s' : St) (hm : P.follows .mixedOrders = true) (hT : ∀ t i, T t = some i → TF P t i)
    (hok : (Nat.ble m l.length && (depsOk 0 l && calmP l (l.take m) s.n 0 (l.take m)) && clsOk l cls 0 l && tailOk cls m m (l.length - m)) = true) (h : calmCut3 P T tab lent l cls m ks hs s = some (true, cds, s'))
    (hn : l.length - m = n) (hL : (List.replicate m true ++ List.replicate n false).toArray = L) (hc : AllC cds) (hk : AAny P l K n L s') : AWp P (.region id l.toArray true) K s := ⟨fun M0 M a he hr => by
  subst hn
  subst hL
  simp only [Bool.and_eq_true] at hok
  obtain ⟨⟨⟨hml, hdep, hok1⟩, hok2⟩, hok3⟩ := hok
  have hml := Nat.le_of_ble_eq_true hml
  unfold calmCut3 at h
  split at h
  · rename_i cds1 es hrun
    simp only [Option.some.injEq, Prod.mk.injEq] at h
    obtain ⟨hes, rfl, rfl⟩ := h
    obtain ⟨h1, h2, _, h4⟩ := run2_at (l.take m) [] trivial hrun hc
    have hall := calm_any2 (M0 := M0) (Q := Qc K M0) hT hml h1 (by rw [h2]; simp; omega) (fun k o hkm hko => by
        have := h4 k o (by rw [List.getElem?_take, if_pos hkm]; exact hko)
        rwa [List.length_nil, Nat.zero_add] at this) hdep hok1 hok2 (entsOk_all hes) (fun t ht1 ht2 j hj => tailOk_at hok3 t ht1 (by omega) j hj)
      (fun M a he hr => (aany_weak (awk_cut ks hs _) hk).run M0 M a he hr)
      l.length (Array.replicate l.length false) s (by
        have : ∀ n, left (List.replicate n false) = n := by
          intro n
          induction n with
          | zero => rfl
          | succ n ih => simp only [List.replicate_succ, left, cond_false, ih]; omega
        rw [Array.toList_replicate, this])
      (by
        have no : ∀ j, (Array.replicate l.length false).getD j false = true → False := fun j hj => by simp [Array.getD_eq_getD_getElem?, Array.getElem?_replicate] at hj; split at hj <;> simp at hj
        exact ⟨rfl, by simp, fun j e hj => (no j hj).elim, fun t _ => rfl, fun j e z o hj => (no j hj).elim, fun z _ => rfl, fun j o hj => (no j hj).elim⟩)
      (fun t _ => by simp [Array.getD_eq_getD_getElem?, Array.getElem?_replicate]; split <;> rfl)
      M.drawn a (he.trans ((drawn_ext M).mono fun x hx => by cases hx)) (drawn_rel hr)
    refine wp_mono (wp_region_any (Q := QN (Qc K M0)) hm (by simp only [List.size_toArray]; exact hall)) fun e a w hq => ?_
    obtain ⟨rfl, hq⟩ := hq
    exact hq
  · cases h⟩
/-- A call that alone can come next. -/
theorem aany_call {l : List Oper} {n k : Nat} {listed L : Array Bool} (ρ new : List (Nat × Nat)) (lent : Bool) (p : Pre) (args : List AV) {Φ : AV → Heap → Prop} {sm : St} (hrd : Region.ready .any l.toArray listed = [k]) (hL : listed.setIfInBounds k true = L) (hp : preCall ρ lent l k s = some p) (hm : missS l k s = some sm)
    (hR : (okR (ρ ++ new) && (okR ρ && (allSmall ρ && allBig new))) = true) (hc : p.g = true → AllP p.cs) (hargs : p.args = args) (hA : p.g = true → ACall P p.f args p.hin Φ)
    (hk : p.g = true → ∀ v Hr, Φ v Hr → ∃ s', outS lent ρ new l k v Hr s = some s' ∧ AAny P l K n L s') (h0 : p.g = false → AAny P l K n L sm) : AAny P l K (n + 1) listed s := ⟨fun M0 M a he hr => by
  subst hL
  refine ⟨fun h0 => (by rw [hrd] at h0; cases h0), fun i hi => ?_⟩
  rw [hrd, List.mem_singleton] at hi
  subst hi
  exact wpOp_of_ok (call_op ρ new lent p args hp hm hR hc hargs hA hr
    (fun hg v Hr hΦ => (hk hg v Hr hΦ).imp fun _s' h => ⟨h.1, fun M' a' he' hr' => h.2.run M0 M' a' (he.trans he') hr'⟩)
    (fun hg a' hr' => (h0 hg).run M0 M a' he hr'))⟩
/-- One step where there is no choice. -/
def stepOne (P : Program) (T : Nat → Option TI) (tab : Tab) (lent : Bool) (l : List Oper) (listed : Array Bool) (s : St) : Option (Nat × List Prop × St) :=
  match Region.ready .any l.toArray listed with
  | [] => none
  | j :: r => (match firstU T l.toArray listed s (j :: r) with
    | some x => some x
    | none => (match r with
      | [] => (match stepAny P T tab lent l j s with | some (cs, s') => some (j, cs, s') | none => none)
      | _ :: _ => none))
def walkTo (P : Program) (T : Nat → Option TI) (tab : Tab) (lent : Bool) (l : List Oper) : Nat → Array Bool → St → Option (List (Nat × List Prop) × Array Bool × St)
  | 0, listed, s => some ([], listed, s)
  | k + 1, listed, s => (match stepOne P T tab lent l listed s with
    | some (i, cs, s') => (match walkTo P T tab lent l k (listed.setIfInBounds i true) s' with
      | some (cds, L, s2) => some ((i, cs) :: cds, L, s2)
      | none => none)
    | none => none)
theorem aany_one {l : List Oper} {n i : Nat} {listed : Array Bool} {tab : Tab} {lent : Bool} {cs : List Prop} {s' : St} (hT : ∀ t i, T t = some i → TF P t i) (hsel : Region.noSelect l.toArray = true) (h : stepOne P T tab lent l listed s = some (i, cs, s')) (hc : AllP cs) (hk : AAny P l K n (listed.setIfInBounds i true) s') :
    AAny P l K (n + 1) listed s := ⟨fun M0 M a he hr => by
  unfold stepOne at h
  split at h
  · cases h
  · rename_i j r hrd
    split at h
    · rename_i x hf
      cases h
      obtain ⟨hi, o, ho, hfree, g, c, v, hg, h1, h2, h3⟩ := firstU_sound hf
      rw [← hrd] at hi
      obtain ⟨u, hyl, hr1⟩ := first_yields (P := P) hT hg h1 h2 h3 hc hr
      exact wpAny_first ho (Region.noSelect_spec hsel) (fun c a w h => by cases h.1) n listed a M.w (Region.free_spec ho hfree) hi hyl (hk.run M0 M _ he hr1)
    · split at h
      · split at h
        · rename_i cs1 s1 hst
          cases h
          refine ⟨fun h0 => (by rw [hrd] at h0; cases h0), fun i hi => ?_⟩
          rw [hrd, List.mem_singleton] at hi
          subst hi
          exact stepAny_sound hT hst hc hr fun M' a' he' hr' => hk.run M0 M' a' (he.trans he') hr'
        · cases h
      · cases h⟩
theorem aany_walk0 {l : List Oper} {tab : Tab} {lent : Bool} (hT : ∀ t i, T t = some i → TF P t i) (hsel : Region.noSelect l.toArray = true) : ∀ (k n : Nat) (listed L : Array Bool) (s s' : St) (cds : List (Nat × List Prop)), walkTo P T tab lent l k listed s = some (cds, L, s') → AllC cds → AAny P l K n L s' → AAny P l K (n + k) listed s
  | 0, n, listed, L, s, s', cds, h, _, hk => by
    unfold walkTo at h
    cases h
    exact hk
  | k + 1, n, listed, L, s, s', cds, h, hc, hk => by
    unfold walkTo at h
    split at h
    · rename_i i cs s1 h1
      split at h
      · rename_i cds2 L2 s2 h2
        cases h
        exact aany_one hT hsel h1 hc.1 (aany_walk0 hT hsel k n _ _ _ _ _ h2 hc.2 hk)
      · cases h
    · cases h
def walkCut (P : Program) (T : Nat → Option TI) (tab : Tab) (lent : Bool) (l : List Oper) (k : Nat) (listed : Array Bool) (ks hs : List Nat) (s : St) : Option (List (Nat × List Prop) × Array Bool × St) :=
  match walkTo P T tab lent l k listed s with
  | some (cds, L, s') => some (cds, L, cutS ks hs s')
  | none => none
theorem aany_walk {l : List Oper} {n : Nat} {listed L : Array Bool} {s' : St} (tab : Tab) (lent : Bool) (k : Nat) (ks hs : List Nat) (cds : List (Nat × List Prop)) (hsel : Region.noSelect l.toArray = true) (hT : ∀ t i, T t = some i → TF P t i) (h : walkCut P T tab lent l k listed ks hs s = some (cds, L, s')) (hc : AllC cds) (hk : AAny P l K n L s') :
    AAny P l K (n + k) listed s := by
  unfold walkCut at h
  split at h
  · rename_i cds1 L1 s1 h1
    cases h
    exact aany_walk0 hT hsel k n _ _ _ _ _ h1 hc (aany_weak (awk_cut ks hs _) hk)
  · cases h
def endCut (P : Program) (T : Nat → Option TI) (tab : Tab) (lent : Bool) (l : List Oper) (n : Nat) (listed : Array Bool) (ks hs : List Nat) (s : St) : Option (List Leaf) :=
  match explore P T tab lent l n listed [] s with
  | some ls => some (ls.map fun y => (y.1, cutS ks hs y.2))
  | none => none
/-- All orders of what is left. -/
theorem aany_end {l : List Oper} {n : Nat} {listed : Array Bool} (tab : Tab) (lent : Bool) (ks hs : List Nat) (q : Nat) (cs : List (Nat × List Prop)) (s' : St) (hsel : Region.noSelect l.toArray = true) (hT : ∀ t i, T t = some i → TF P t i) (h : endCut P T tab lent l n listed ks hs s = some (List.replicate q (cs, s'))) (hc : AllC cs) (hk : K .normal s') :
    AAny P l K n listed s := ⟨fun M0 M a he hr => by
  unfold endCut at h
  split at h
  · rename_i ls hls
    simp only [Option.some.injEq] at h
    refine explore_sound (M0 := M0) (Q := Qc K M0) hT hsel n _ [] s ls hls (fun y hy => ?_) M a he hr
    have hmem : (y.1, cutS ks hs y.2) ∈ List.replicate q (cs, s') := by
      rw [← h]
      exact List.mem_map_of_mem (f := fun y : Leaf => (y.1, cutS ks hs y.2)) hy
    have heq := List.eq_of_mem_replicate hmem
    simp only [Prod.mk.injEq] at heq
    refine ⟨by rw [heq.1]; exact hc, fun M a he hr => ?_⟩
    obtain ⟨M', h3, h4, h5⟩ := awk_cut ks hs y.2 M a hr
    rw [heq.2] at h3
    exact ⟨s', M', hk, h3, h4, he.trans h5⟩
  · cases h⟩
end
end Go.Ab
