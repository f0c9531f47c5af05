/- The abstract machine: two rows of a table grow in a region that draws its order. -/
import Derived.Test.YtcmaffldmodacaaGrow
namespace Go.Ab
open Go
theorem andThen_inv {α β : Type} {r : Result α} {f : α → World → Result β} {v : β} {w' : World} (h : r.andThen f = .ok v w') : ∃ a w1, r = .ok a w1 ∧ f a w1 = .ok v w' := by
  cases r with
  | ok a w1 => exact ⟨a, w1, rfl, h⟩
  | halt _ _ => cases h
theorem bs_world {P : Program} {ρ : Operand → Value} {o : Oper} {t e : TypeId} {ie : TI} {parts : Array (Nat × Operand)} {w w' : World} {v : Next} (ht : P.underlying t = some (.slice e)) (hF : TF P e ie) (hsz : ie.sz = 1) (ho : o.op = .buildSlice t 1 parts) (h : (execOp ρ o).run P w = .ok v w') : ∀ b, b < w.heap.size → w'.heap[b]? = w.heap[b]? := by
  have hne1 : ¬ (1 * ie.sz > 2 ^ 24) := by rw [hsz]; decide
  have hne2 : ¬ (1 * ie.sz = 0) := by rw [hsz]; decide
  simp only [execOp, ho, Instr.buildSlice, Sem.run_bind, Sem.run_pure, run_underlying ht, Result.andThen_ok, sizeOf_run hF, if_neg hne1, if_neg hne2] at h
  obtain ⟨z, w1, h1, h2⟩ := andThen_inv h
  cases h2
  obtain ⟨z0, w0, g1, g2⟩ := andThen_inv h1
  obtain ⟨ti, zv, hi, hs, _, hz, _⟩ := hF.info
  have hzr : (zeroValue e).run P w = .ok zv w := by simp [zeroValue, typeInfo, hi, hz]
  rw [hzr] at g1
  cases g1
  split at g2
  · rename_i cells _
    simp only [Sem.run_bind, newRow, run_newObj, Result.andThen_ok, Sem.run_pure] at g2
    cases g2
    exact fun b hb => heap_alloc_old w _ hb
  · cases g2
structure GAcc (σ : Type) where
  nx : List (Nat × σ)
  es : List (σ × σ)
  cs : List (Nat × List Prop)
def mkM (N key : Nat) : Array Bool := ((List.range N).map fun i => key.testBit i).toArray
theorem mkM_at {N key j : Nat} (d : Bool) (hj : j < N) : (mkM N key).getD j d = key.testBit j := by
  rw [Array.getD_eq_getD_getElem?]
  simp [mkM, hj]
theorem mkM_out {N key j : Nat} (d : Bool) (hj : ¬ j < N) : (mkM N key).getD j d = d := by
  rw [Array.getD_eq_getD_getElem?]
  simp [mkM, hj]
theorem mkM_set {N key i : Nat} : (mkM N key).setIfInBounds i true = mkM N (key ||| 2 ^ i) := by
  refine Array.ext (by simp [mkM]) fun j h1 h2 => ?_
  have hj : j < N := by simpa [mkM] using h2
  rw [Array.getElem_setIfInBounds (by simpa [mkM] using hj)]
  simp only [mkM, List.getElem_toArray, List.getElem_map, List.getElem_range, Nat.testBit_or, Nat.testBit_two_pow]
  by_cases h : i = j
  · simp [h]
  · simp [h]
def depL : List Edge → Nat
  | [] => 0
  | e :: r => cond (Region.binds .any e) (2 ^ e.on ||| depL r) (depL r)
def depOf (o : Oper) : Nat := depL o.after.toList
theorem depL_bit {j : Nat} : ∀ {l : List Edge}, (depL l).testBit j = true ↔ ∃ e ∈ l, Region.binds .any e = true ∧ e.on = j
  | [] => by simp [depL]
  | e :: r => by
    have ih := depL_bit (j := j) (l := r)
    rw [depL]
    cases hb : Region.binds .any e
    · rw [cond_false, ih]
      simp [hb]
    · rw [cond_true, Nat.testBit_or, Bool.or_eq_true, ih, Nat.testBit_two_pow, decide_eq_true_eq]
      simp [hb]
theorem sub_bits {k d : Nat} : k &&& d = d ↔ ∀ j, d.testBit j = true → k.testBit j = true := by
  constructor
  · intro h j hj
    rw [← h, Nat.testBit_and, Bool.and_eq_true] at hj
    exact hj.1
  · intro h
    refine Nat.eq_of_testBit_eq fun j => ?_
    rw [Nat.testBit_and]
    cases hd : d.testBit j
    · simp
    · simp [h j hd]
def rdyN (key : Nat) : List Nat → Nat → List Nat
  | [], _ => []
  | d :: r, i => cond (Nat.beq (Nat.land (Nat.shiftRight key i) 1) 1) (rdyN key r (i + 1)) (cond (Nat.beq (Nat.land key d) d) (i :: rdyN key r (i + 1)) (rdyN key r (i + 1)))
theorem bit_is (key i : Nat) : Nat.beq (Nat.land (Nat.shiftRight key i) 1) 1 = key.testBit i := by
  show Nat.beq ((key >>> i) &&& 1) 1 = key.testBit i
  rw [Nat.and_one_is_mod]
  rw [Nat.testBit_eq_decide_div_mod_eq, Nat.shiftRight_eq_div_pow]
  rw [Bool.eq_iff_iff, decide_eq_true_eq, Nat.beq_eq]
theorem mem_rdyN {key j : Nat} : ∀ {ds : List Nat} {i : Nat}, j ∈ rdyN key ds i ↔ ∃ k d, j = i + k ∧ ds[k]? = some d ∧ key.testBit j = false ∧ key &&& d = d
  | [], i => by simp [rdyN]
  | d :: r, i => by
    have ih := mem_rdyN (key := key) (j := j) (ds := r) (i := i + 1)
    have step : (∃ k d', j = i + k ∧ (d :: r)[k]? = some d' ∧ key.testBit j = false ∧ key &&& d' = d') ↔ (j = i ∧ key.testBit j = false ∧ key &&& d = d) ∨ j ∈ rdyN key r (i + 1) := by
      rw [ih]
      constructor
      · rintro ⟨k, d', h1, h2, h3, h4⟩
        cases k with
        | zero =>
          simp only [List.getElem?_cons_zero, Option.some.injEq] at h2
          subst h2
          exact .inl ⟨h1, h3, h4⟩
        | succ k =>
          rw [List.getElem?_cons_succ] at h2
          exact .inr ⟨k, d', by omega, h2, h3, h4⟩
      · rintro (⟨h1, h3, h4⟩ | ⟨k, d', h1, h2, h3, h4⟩)
        · exact ⟨0, d, h1, rfl, h3, h4⟩
        · exact ⟨k + 1, d', by omega, by rw [List.getElem?_cons_succ]; exact h2, h3, h4⟩
    rw [step, rdyN, bit_is]
    cases hb : key.testBit i
    · rw [cond_false]
      cases hd : Nat.beq (Nat.land key d) d
      · rw [cond_false]
        constructor
        · exact .inr
        · rintro (⟨h1, h3, h4⟩ | h)
          · have : Nat.beq (Nat.land key d) d = true := by rw [Nat.beq_eq]; exact h4
            rw [hd] at this; cases this
          · exact h
      · rw [cond_true, List.mem_cons]
        have hd' : key &&& d = d := by rw [Nat.beq_eq] at hd; exact hd
        constructor
        · rintro (h | h)
          · subst h; exact .inl ⟨rfl, hb, hd'⟩
          · exact .inr h
        · rintro (⟨h1, _, _⟩ | h)
          · exact .inl h1
          · exact .inr h
    · rw [cond_true]
      constructor
      · exact .inr
      · rintro (⟨h1, h3, h4⟩ | h)
        · subst h1; rw [hb] at h3; cases h3
        · exact h
theorem ready_iff {l : List Oper} {N key j : Nat} (hN : l.length = N) (hon : (l.all fun o => o.after.toList.all fun e => Nat.blt e.on N) = true) : j ∈ Region.ready .any l.toArray (mkM N key) ↔ j ∈ rdyN key (l.map depOf) 0 := by
  rw [mem_rdyN]
  unfold Region.ready
  simp only [List.mem_filter, List.mem_range, List.size_toArray, hN]
  constructor
  · rintro ⟨h1, h2⟩
    simp only [Bool.and_eq_true, Bool.not_eq_true'] at h2
    obtain ⟨h2, h3⟩ := h2
    rw [mkM_at _ h1] at h2
    have ho : l.toArray[j]? = some (l[j]'(by omega)) := by simp [hN, h1]
    rw [ho, Option.map_some, Option.getD_some] at h3
    refine ⟨j, depOf (l[j]'(by omega)), by omega, by simp [hN, h1], h2, sub_bits.2 fun b hb => ?_⟩
    obtain ⟨e, he, hbn, rfl⟩ := depL_bit.1 hb
    rw [Array.all_eq_true'] at h3
    have h4 := h3 e (Array.mem_toList_iff.1 he)
    rw [hbn] at h4
    simp only [Bool.not_true, Bool.false_or] at h4
    by_cases hlt : e.on < N
    · rwa [mkM_at _ hlt] at h4
    · rw [mkM_out _ hlt] at h4; cases h4
  · rintro ⟨k, d, h1, h2, h3, h4⟩
    obtain rfl : j = k := by omega
    rw [List.getElem?_map] at h2
    obtain ⟨o, ho, rfl⟩ := Option.map_eq_some_iff.1 h2
    have hj : j < l.length := (List.getElem?_eq_some_iff.1 ho).1
    refine ⟨by omega, ?_⟩
    simp only [Bool.and_eq_true, Bool.not_eq_true']
    refine ⟨by rw [mkM_at _ (by omega)]; exact h3, ?_⟩
    rw [List.getElem?_toArray, ho, Option.map_some, Option.getD_some, Array.all_eq_true']
    intro e he
    cases hbn : Region.binds .any e
    · rfl
    · have hlt : e.on < N := by
        have h5 := List.all_eq_true.1 hon o (List.mem_of_getElem? ho)
        have h6 := List.all_eq_true.1 h5 e (Array.mem_toList_iff.2 he)
        exact Nat.le_of_ble_eq_true h6
      simp only [Bool.not_true, Bool.false_or]
      rw [mkM_at _ hlt]
      exact sub_bits.1 h4 e.on (depL_bit.2 ⟨e, Array.mem_toList_iff.2 he, hbn, rfl⟩)
section generic
variable {σ : Type} (step : Nat → σ → Option (List Prop × σ)) (first : Nat → σ → List Nat → Option (Nat × List Prop × σ)) (ds : List Nat)
def findG (m : Nat) : List (Nat × σ) → Option σ
  | [] => none
  | (x, s) :: r => cond (Nat.beq x m) (some s) (findG m r)
theorem findG_some {m : Nat} : ∀ {l : List (Nat × σ)} {s0 : σ}, findG m l = some s0 → (m, s0) ∈ l
  | [], _, h => by cases h
  | (x, s) :: r, s0, h => by
    unfold findG at h
    cases he : Nat.beq x m with
    | true =>
      rw [he] at h
      cases h
      obtain rfl := Nat.eq_of_beq_eq_true he
      exact List.mem_cons_self
    | false =>
      rw [he] at h
      exact List.mem_cons_of_mem _ (findG_some h)
def gIns (m : Nat) (i : Nat) (c : List Prop) (s' : σ) (acc : GAcc σ) : GAcc σ :=
  match findG (Nat.lor m (2 ^ i)) acc.nx with
  | some s0 => ⟨acc.nx, (s0, s') :: acc.es, (i, c) :: acc.cs⟩
  | none => ⟨(Nat.lor m (2 ^ i), s') :: acc.nx, acc.es, (i, c) :: acc.cs⟩
structure GLe (a b : GAcc σ) : Prop where
  nx : ∀ x ∈ a.nx, x ∈ b.nx
  es : ∀ x ∈ a.es, x ∈ b.es
  cs : ∀ x ∈ a.cs, x ∈ b.cs
theorem GLe.refl (a : GAcc σ) : GLe a a := ⟨fun _ h => h, fun _ h => h, fun _ h => h⟩
theorem GLe.trans {a b c : GAcc σ} (h : GLe a b) (h2 : GLe b c) : GLe a c := ⟨fun x q => h2.nx x (h.nx x q), fun x q => h2.es x (h.es x q), fun x q => h2.cs x (h.cs x q)⟩
def GArc (m : Nat) (i : Nat) (c : List Prop) (s' : σ) (b : GAcc σ) : Prop := (i, c) ∈ b.cs ∧ ∃ s0, (m ||| 2 ^ i, s0) ∈ b.nx ∧ (s0 = s' ∨ (s0, s') ∈ b.es)
theorem GArc.mono {m : Nat} {i : Nat} {c : List Prop} {s' : σ} {a b : GAcc σ} (h : GArc m i c s' a) (hab : GLe a b) : GArc m i c s' b := by
  obtain ⟨h1, s0, h2, h3⟩ := h
  exact ⟨hab.cs _ h1, s0, hab.nx _ h2, h3.imp id (hab.es _)⟩
theorem gIns_ok (m : Nat) (i : Nat) (c : List Prop) (s' : σ) (acc : GAcc σ) : GLe acc (gIns m i c s' acc) ∧ GArc m i c s' (gIns m i c s' acc) := by
  unfold gIns
  split
  · rename_i s0 hf
    exact ⟨⟨fun _ q => q, fun _ q => List.mem_cons_of_mem _ q, fun _ q => List.mem_cons_of_mem _ q⟩, List.mem_cons_self, s0, findG_some hf, .inr List.mem_cons_self⟩
  · exact ⟨⟨fun _ q => List.mem_cons_of_mem _ q, fun _ q => q, fun _ q => List.mem_cons_of_mem _ q⟩, List.mem_cons_self, s', List.mem_cons_self, .inl rfl⟩
def gOps (m : Nat) (s : σ) : List Nat → GAcc σ → Option (GAcc σ)
  | [], acc => some acc
  | i :: r, acc => (match step i s with
    | none => none
    | some (c, s') => gOps m s r (gIns m i c s' acc))
def gLevel : List (Nat × σ) → GAcc σ → Option (GAcc σ)
  | [], acc => some acc
  | (m, s) :: r, acc => (match rdyN m ds 0 with
    | [] => none
    | j :: q => (match first m s (j :: q) with
      | some (i, c, s') => gLevel r (gIns m i c s' acc)
      | none => (match gOps step m s (j :: q) acc with
        | some acc' => gLevel r acc'
        | none => none)))
def gGo : Nat → GAcc σ → Option (GAcc σ)
  | 0, acc => some acc
  | k + 1, acc => (match gLevel step first ds acc.nx ⟨[], acc.es, acc.cs⟩ with
    | some acc' => gGo k acc'
    | none => none)
def GNode (m : Nat) (s : σ) (b : GAcc σ) : Prop :=
  (rdyN m ds 0 ≠ [] ∧ ∀ i ∈ rdyN m ds 0, ∃ c s', step i s = some (c, s') ∧ GArc m i c s' b) ∨
  (∃ i c s', first m s (rdyN m ds 0) = some (i, c, s') ∧ GArc m i c s' b)
variable {step first ds}
theorem gOps_sound {m : Nat} {s : σ} : ∀ (r : List Nat) (a b : GAcc σ), gOps step m s r a = some b → GLe a b ∧ ∀ i ∈ r, ∃ c s', step i s = some (c, s') ∧ GArc m i c s' b
  | [], a, b, h => by
    unfold gOps at h
    cases h
    exact ⟨.refl _, fun i hi => by cases hi⟩
  | i :: r, a, b, h => by
    unfold gOps at h
    split at h
    · cases h
    · rename_i c s' hst
      obtain ⟨h1, h2⟩ := gOps_sound r _ _ h
      obtain ⟨h3, h4⟩ := gIns_ok m i c s' a
      refine ⟨h3.trans h1, fun j hj => ?_⟩
      rcases List.mem_cons.1 hj with rfl | hj
      · exact ⟨c, s', hst, h4.mono h1⟩
      · exact h2 j hj
theorem gLevel_sound : ∀ (lv : List (Nat × σ)) (a b : GAcc σ), gLevel step first ds lv a = some b → GLe a b ∧ ∀ x ∈ lv, GNode step first ds x.1 x.2 b
  | [], a, b, h => by
    unfold gLevel at h
    cases h
    exact ⟨.refl _, fun x hx => by cases hx⟩
  | (m, s) :: r, a, b, h => by
    unfold gLevel at h
    split at h
    · cases h
    · rename_i j q hrd
      split at h
      · rename_i i c s' hf
        obtain ⟨h1, h2⟩ := gIns_ok m i c s' a
        obtain ⟨h3, h4⟩ := gLevel_sound r _ _ h
        refine ⟨h1.trans h3, fun x hx => ?_⟩
        rcases List.mem_cons.1 hx with rfl | hx
        · exact .inr ⟨i, c, s', by rw [hrd]; exact hf, h2.mono h3⟩
        · exact h4 x hx
      · split at h
        · rename_i c hc
          obtain ⟨h1, h2⟩ := gOps_sound _ _ _ hc
          obtain ⟨h3, h4⟩ := gLevel_sound r _ _ h
          refine ⟨h1.trans h3, fun x hx => ?_⟩
          rcases List.mem_cons.1 hx with rfl | hx
          · refine .inl ⟨fun h0 => (by rw [hrd] at h0; cases h0), fun i hi => ?_⟩
            rw [hrd] at hi
            obtain ⟨c, s', q1, q2⟩ := h2 i hi
            exact ⟨c, s', q1, q2.mono h3⟩
          · exact h4 x hx
        · cases h
theorem gGo_le : ∀ (k : Nat) (a b : GAcc σ), gGo step first ds k a = some b → (∀ x ∈ a.es, x ∈ b.es) ∧ ∀ x ∈ a.cs, x ∈ b.cs
  | 0, a, b, h => by
    unfold gGo at h
    cases h
    exact ⟨fun _ q => q, fun _ q => q⟩
  | k + 1, a, b, h => by
    unfold gGo at h
    split at h
    · rename_i c hc
      obtain ⟨h1, _⟩ := gLevel_sound _ _ _ hc
      obtain ⟨h2, h3⟩ := gGo_le k _ _ h
      exact ⟨fun x q => h2 x (h1.es x q), fun x q => h3 x (h1.cs x q)⟩
    · cases h
def AG (P : Program) (l : List Oper) (Q : Exit → Act → World → Prop) (M0 : Mem) (R : σ → Mem → Act → Prop) (n : Nat) (m : Array Bool) (s : σ) : Prop := ∀ M a, Ext big M0 M → R s M a → wpAny P .any l.toArray Q n m a M.w
theorem gGo_sound {P : Program} {l : List Oper} {N : Nat} {Q : Exit → Act → World → Prop} {M0 : Mem} {R : σ → Mem → Act → Prop} {n : Nat} (hN : l.length = N) (hon : (l.all fun o => o.after.toList.all fun e => Nat.blt e.on N) = true) (hds : l.map depOf = ds)
    (hstep : ∀ i s c s', step i s = some (c, s') → AllP c → ∀ M a, Ext big M0 M → R s M a → ∀ Kx : Act → World → Prop, (∀ M' a', Ext big M0 M' → R s' M' a' → Kx a' M'.w) → wpOp P l.toArray Q i Kx a M.w)
    (hfirst : ∀ n m i s c s' r, (∀ j ∈ r, j ∈ Region.ready .any l.toArray (mkM N m)) → first m s r = some (i, c, s') → AllP c → AG P l Q M0 R n ((mkM N m).setIfInBounds i true) s' → AG P l Q M0 R (n + 1) (mkM N m) s) :
    ∀ (k : Nat) (a b : GAcc σ), gGo step first ds k a = some b → (∀ x ∈ b.es, x.1 = x.2) → (∀ x ∈ b.cs, AllP x.2) → (∀ x ∈ b.nx, AG P l Q M0 R n (mkM N x.1) x.2) → ∀ x ∈ a.nx, AG P l Q M0 R (n + k) (mkM N x.1) x.2
  | 0, a, b, h, _, _, hq => by
    unfold gGo at h
    cases h
    exact hq
  | k + 1, a, b, h, he, hc, hq => by
    intro x hx
    unfold gGo at h
    split at h
    · rename_i c hlv
      have ih := gGo_sound hN hon hds hstep hfirst k _ _ h he hc hq
      obtain ⟨_, h2⟩ := gLevel_sound _ _ _ hlv
      obtain ⟨hle1, hle2⟩ := gGo_le k _ _ h
      have hrd : ∀ j, j ∈ Region.ready .any l.toArray (mkM N x.1) ↔ j ∈ rdyN x.1 ds 0 := fun j => by rw [ready_iff hN hon, hds]
      rcases h2 x hx with ⟨hne, harc⟩ | ⟨i, cs, s', hf, hcs, s0, hnx, hs0⟩
      · intro M a he' hr
        refine ⟨fun h0 => (hne (List.eq_nil_iff_forall_not_mem.2 fun j hj => by
          have h1 := (hrd j).2 hj
          rw [h0] at h1
          cases h1)).elim, fun i hi => ?_⟩
        obtain ⟨cs, s', hst, hcs, s0, hnx, hs0⟩ := harc i ((hrd i).1 hi)
        have hs : s0 = s' := hs0.elim id fun q => he _ (hle1 _ q)
        subst hs
        refine hstep i _ _ _ hst (hc _ (hle2 _ hcs)) M a he' hr _ fun M' a' he2 hr2 => ?_
        rw [mkM_set]
        exact ih _ hnx M' a' he2 hr2
      · have hs : s0 = s' := hs0.elim id fun q => he _ (hle1 _ q)
        subst hs
        refine hfirst (n + k) x.1 i x.2 cs s0 _ (fun j hj => (hrd j).2 hj) hf (hc _ (hle2 _ hcs)) ?_
        rw [mkM_set]
        exact ih _ hnx
    · cases h
def gL : Option (GAcc σ) → List σ
  | some a => a.es.map (·.1)
  | none => []
def gR : Option (GAcc σ) → List σ
  | some a => a.es.map (·.2)
  | none => []
def gC : Option (GAcc σ) → List (List Prop)
  | some a => a.cs.map (·.2)
  | none => []
def gD (cds : List (Nat × List Prop)) : Option (GAcc σ) → List (List Prop)
  | some a => a.cs.map fun x => lookD cds x.1
  | none => []
end generic
end Go.Ab
