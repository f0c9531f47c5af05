/- The abstract machine, part 21: a region that draws its order, of reads, new blocks and calls: the rule. -/
import Derived.Test.YtdglhalkilneaaaAb20
namespace Go.Ab
open Go

structure Ent where
  d : Nat
  v : AV
  bs : Heap
abbrev Ents := List (Nat × Ent)
def valsOf : Ents → Vals
  | [] => []
  | (k, e) :: r => (k, (e.d, e.v)) :: valsOf r
def insB : Heap → Heap → Heap
  | [], H => H
  | (z, o) :: r, H => ins z o (insB r H)
def hpOf (es : Ents) (H : Heap) : List Nat → Heap
  | [] => H
  | j :: r => (match look j es with | some e => insB e.bs (hpOf es H r) | none => hpOf es H r)
def hpAll : Ents → Heap → Heap
  | [], H => H
  | (_, e) :: r, H => insB e.bs (hpAll r H)
def clsAt : List (List Nat) → Nat → List Nat
  | [], _ => []
  | c :: _, 0 => c
  | _ :: r, i + 1 => clsAt r i
def run2 (P : Program) (T : Nat → Option TI) (tab : Tab) (lent : Bool) (l : List Oper) (cls : List (List Nat)) (s : St) : List Oper → Nat → Ents → Option (List (Nat × List Prop) × Ents)
  | [], _, es => some ([], es)
  | o :: r, i, es =>
    (match o.dst with
    | some d =>
      (match calmVal2 P T tab lent l i ⟨s.n, pickSlots s.tm (valsOf es) (bindsOf o.after.toList) (usesOf l o), hpOf es s.hp (clsAt cls i)⟩ with
      | some (cs, v, bs) => (match run2 P T tab lent l cls s r (i + 1) ((i, ⟨d, v, bs⟩) :: es) with | some (cds, fs) => some ((i, cs) :: cds, fs) | none => none)
      | none => none)
    | none => none)
/-- The blocks of all operations; those of all that one does not wait for. -/
def newX (es : Ents) (z : Nat) : Bool := es.any fun e => bsX e.2.bs z
def otherX (es : Ents) (i : Nat) (c : List Nat) (z : Nat) : Bool := es.any fun f => !(Nat.beq f.1 i) && !(hasN f.1 c) && bsX f.2.bs z
def entsOk (cls : List (List Nat)) (s : St) (es : Ents) : Bool :=
  s.tm.all (fun p => refsA (newX es) p.2) && s.hp.all (fun p => refsO (newX es) p.2) &&
  es.all (fun e => refsA (otherX es e.1 (clsAt cls e.1)) e.2.v && e.2.bs.all (fun p => refsO (otherX es e.1 (clsAt cls e.1)) p.2 && (look p.1 s.hp).isNone &&
    es.all (fun f => Nat.beq f.1 e.1 || !(bsX f.2.bs p.1))))
def clsOk (l : List Oper) (cls : List (List Nat)) : Nat → List Oper → Bool
  | _, [] => true
  | i, o :: r => (clsAt cls i).all (fun k => hasN k (bindsOf o.after.toList) || (bindsOf o.after.toList).any (fun j => hasN k (clsAt cls j))) && clsOk l cls (i + 1) r
/-! ### Numbered lists -/
def KeysG {α : Type} : List (Nat × α) → Prop
  | [] => True
  | (k, _) :: r => k = r.length ∧ KeysG r
section
variable {α : Type}
theorem KeysG.lt : ∀ {vs : List (Nat × α)}, KeysG vs → ∀ {j : Nat} {x : α}, look j vs = some x → j < vs.length
  | [], _, _, _, h => by cases h
  | (k, y) :: r, hk, j, x, h => by
    unfold look at h
    cases hb : Nat.beq k j
    · rw [hb] at h
      have := KeysG.lt hk.2 h
      simp only [List.length_cons]; omega
    · have := Nat.eq_of_beq_eq_true hb
      have := hk.1
      simp only [List.length_cons]; omega
theorem KeysG.there : ∀ {vs : List (Nat × α)}, KeysG vs → ∀ {j : Nat}, j < vs.length → ∃ x, look j vs = some x
  | [], _, _, h => by simp at h
  | (k, y) :: r, hk, j, h => by
    unfold look
    cases hb : Nat.beq k j
    · have hne : k ≠ j := by rintro rfl; rw [beq_self] at hb; cases hb
      have := hk.1
      simp only [List.length_cons] at h
      exact KeysG.there hk.2 (by omega)
    · exact ⟨y, rfl⟩
theorem KeysG.up {vs : List (Nat × α)} (hk : KeysG vs) {y : α} {j : Nat} {x : α} (h : look j vs = some x) : look j ((vs.length, y) :: vs) = some x := by
  unfold look
  have := hk.lt h
  rw [beq_ne (show vs.length ≠ j by omega)]
  exact h
theorem KeysG.mem : ∀ {vs : List (Nat × α)}, KeysG vs → ∀ {k : Nat} {x : α}, (k, x) ∈ vs → look k vs = some x
  | [], _, _, _, h => by cases h
  | (k0, y) :: r, hk, k, x, h => by
    obtain ⟨h1, h2⟩ := hk
    subst h1
    rcases List.mem_cons.1 h with h | h
    · cases h
      unfold look; rw [beq_self]; rfl
    · exact h2.up (KeysG.mem h2 h)
end
theorem look_cons {α : Type} (k z : Nat) (v : α) (r : List (Nat × α)) : look z ((k, v) :: r) = if z = k then some v else look z r := by
  show cond (Nat.beq k z) (some v) (look z r) = _
  by_cases h : z = k
  · subst h; rw [if_pos rfl, beq_self]; rfl
  · rw [if_neg h, beq_ne (Ne.symm h)]; rfl
theorem valsOf_len : ∀ es : Ents, (valsOf es).length = es.length
  | [] => rfl
  | (_, _) :: r => congrArg (· + 1) (valsOf_len r)
theorem keys_vals : ∀ {es : Ents}, KeysG es → KeysOk (valsOf es)
  | [], _ => trivial
  | (_, _) :: r, h => ⟨h.1.trans (valsOf_len r).symm, keys_vals h.2⟩
theorem look_vals {j : Nat} : ∀ {es : Ents}, look j (valsOf es) = (look j es).map fun e => (e.d, e.v)
  | [] => rfl
  | (k, e) :: r => by
    show look j ((k, (e.d, e.v)) :: valsOf r) = _
    rw [look_cons, look_cons, look_vals (es := r)]
    split <;> rfl
theorem mem_look {α : Type} {k : Nat} {x : α} : ∀ {l : List (Nat × α)}, look k l = some x → (k, x) ∈ l
  | [], h => by cases h
  | (k0, y) :: r, h => by
    unfold look at h
    cases hb : Nat.beq k0 k
    · rw [hb] at h; exact List.mem_cons_of_mem _ (mem_look h)
    · rw [hb] at h
      have := Nat.eq_of_beq_eq_true hb
      subst this
      cases h
      exact List.mem_cons_self

/-! ### Heaps with blocks put in -/
theorem insB_at {z : Nat} {H : Heap} : ∀ {bs : Heap}, look z (insB bs H) = (match look z bs with | some o => some o | none => look z H)
  | [] => rfl
  | (k, o) :: r => by
    unfold insB
    rw [look_ins, insB_at (bs := r), look_cons]
    by_cases hz : z = k
    · rw [if_pos hz, if_pos hz]
    · rw [if_neg hz, if_neg hz]
theorem hpOf_at {es : Ents} {H : Heap} {z : Nat} {o : Obj} : ∀ {js : List Nat}, look z (hpOf es H js) = some o → (∃ j ∈ js, ∃ e, look j es = some e ∧ look z e.bs = some o) ∨ look z H = some o
  | [], h => .inr h
  | j :: r, h => by
    unfold hpOf at h
    split at h
    · rename_i e he
      rw [insB_at] at h
      split at h
      · rename_i o1 ho1
        cases h
        exact .inl ⟨j, List.mem_cons_self, e, he, ho1⟩
      · rcases hpOf_at h with ⟨k, hk, x⟩ | h
        · exact .inl ⟨k, List.mem_cons_of_mem _ hk, x⟩
        · exact .inr h
    · rcases hpOf_at h with ⟨k, hk, x⟩ | h
      · exact .inl ⟨k, List.mem_cons_of_mem _ hk, x⟩
      · exact .inr h
theorem hpAll_at {H : Heap} {z : Nat} : ∀ {es : Ents}, (∃ p ∈ es, ∃ o, look z p.2.bs = some o ∧ look z (hpAll es H) = some o) ∨ ((∀ p ∈ es, look z p.2.bs = none) ∧ look z (hpAll es H) = look z H)
  | [] => .inr ⟨(fun p hp => by cases hp), rfl⟩
  | (k, e) :: r => by
    unfold hpAll
    rw [insB_at]
    cases he : look z e.bs with
    | some o => exact .inl ⟨(k, e), List.mem_cons_self, o, he, rfl⟩
    | none =>
      rcases hpAll_at (H := H) (z := z) (es := r) with ⟨p, hp, o, h1, h2⟩ | ⟨h1, h2⟩
      · exact .inl ⟨p, List.mem_cons_of_mem _ hp, o, h1, h2⟩
      · refine .inr ⟨fun p hp => ?_, h2⟩
        rcases List.mem_cons.1 hp with rfl | hp
        · exact he
        · exact h1 p hp

/-! ### What the run and the tests show -/
def OpAt2 (P : Program) (T : Nat → Option TI) (tab : Tab) (lent : Bool) (l : List Oper) (cls : List (List Nat)) (s : St) (es : Ents) (i : Nat) (o : Oper) : Prop :=
  ∃ d cs v bs, ∃ ei : Ents, o.dst = some d ∧ look i es = some ⟨d, v, bs⟩ ∧ AllP cs ∧
    calmVal2 P T tab lent l i ⟨s.n, pickSlots s.tm (valsOf ei) (bindsOf o.after.toList) (usesOf l o), hpOf ei s.hp (clsAt cls i)⟩ = some (cs, v, bs) ∧
    (∀ j x, look j ei = some x → look j es = some x) ∧ (∀ j, j < i → ∃ x, look j ei = some x)
theorem run2_at {P : Program} {T : Nat → Option TI} {tab : Tab} {lent : Bool} {l : List Oper} {cls : List (List Nat)} {s : St} : ∀ (rest : List Oper) (vals : Ents) {cds : List (Nat × List Prop)} {es : Ents}, KeysG vals → run2 P T tab lent l cls s rest vals.length vals = some (cds, es) → AllC cds →
    KeysG es ∧ es.length = vals.length + rest.length ∧ (∀ j x, look j vals = some x → look j es = some x) ∧ ∀ k o, rest[k]? = some o → OpAt2 P T tab lent l cls s es (vals.length + k) o
  | [], vals, cds, es, hk, h, _ => by
    simp only [run2, Option.some.injEq, Prod.mk.injEq] at h
    obtain ⟨_, rfl⟩ := h
    exact ⟨hk, rfl, fun _ _ h => h, fun k o hko => by simp at hko⟩
  | o :: r, vals, cds, es, hk, h, hc => by
    unfold run2 at h
    split at h
    · rename_i d hd
      split at h
      · rename_i cs v bs hv
        split at h
        · rename_i cds1 es1 hrun
          simp only [Option.some.injEq, Prod.mk.injEq] at h
          obtain ⟨rfl, rfl⟩ := h
          have hk1 : KeysG ((vals.length, (⟨d, v, bs⟩ : Ent)) :: vals) := ⟨rfl, hk⟩
          obtain ⟨a1, a2, a3, a4⟩ := run2_at r ((vals.length, ⟨d, v, bs⟩) :: vals) hk1 hrun hc.2
          refine ⟨a1, by simp only [List.length_cons] at a2 ⊢; omega, fun j x hj => a3 j x (hk.up hj), fun k q hq => ?_⟩
          cases k with
          | zero =>
            simp only [List.getElem?_cons_zero, Option.some.injEq] at hq
            subst hq
            exact ⟨d, cs, v, bs, vals, hd, a3 _ _ (by unfold look; rw [Nat.add_zero, beq_self]; rfl), hc.1, hv, fun j x hj => a3 j x (hk.up hj), fun j hj => hk.there (by omega)⟩
          | succ k =>
            have := a4 k q (by simpa using hq)
            rw [show ((vals.length, (⟨d, v, bs⟩ : Ent)) :: vals).length + k = vals.length + (k + 1) by simp only [List.length_cons]; omega] at this
            exact this
        · cases h
      · cases h
    · cases h
theorem clsOk_at {l : List Oper} {cls : List (List Nat)} : ∀ {rest : List Oper} {i0 : Nat}, clsOk l cls i0 rest = true → ∀ k o, rest[k]? = some o → ∀ x ∈ clsAt cls (i0 + k), x ∈ bindsOf o.after.toList ∨ ∃ j ∈ bindsOf o.after.toList, x ∈ clsAt cls j
  | [], _, _, k, o, hk => by simp at hk
  | p :: r, i0, h, k, o, hk => by
    unfold clsOk at h
    simp only [Bool.and_eq_true] at h
    cases k with
    | zero =>
      simp only [List.getElem?_cons_zero, Option.some.injEq] at hk
      subst hk
      intro x hx
      have := List.all_eq_true.1 h.1 x hx
      simp only [Bool.or_eq_true, List.any_eq_true] at this
      rcases this with h1 | ⟨j, h1, h2⟩
      · exact .inl (hasN_mem.1 h1)
      · exact .inr ⟨j, h1, hasN_mem.1 h2⟩
    | succ k =>
      have := clsOk_at h.2 k o (by simpa using hk)
      rw [show i0 + 1 + k = i0 + (k + 1) by omega] at this
      exact this
theorem mem_tm {tm : List (Nat × AV)} {t : Nat} {v : AV} (h : look t tm = some v) : (t, v) ∈ tm := mem_look h
structure EntsOk (cls : List (List Nat)) (s : St) (es : Ents) : Prop where
  tm : ∀ t v, look t s.tm = some v → refsA (newX es) v = true
  hp : ∀ z o, look z s.hp = some o → refsO (newX es) o = true
  v : ∀ i e, look i es = some e → refsA (otherX es i (clsAt cls i)) e.v = true
  o : ∀ i e z o, look i es = some e → look z e.bs = some o → refsO (otherX es i (clsAt cls i)) o = true ∧ look z s.hp = none ∧ ∀ j f, look j es = some f → j ≠ i → look z f.bs = none
theorem entsOk_all {cls : List (List Nat)} {s : St} {es : Ents} (h : entsOk cls s es = true) : EntsOk cls s es := by
  unfold entsOk at h
  simp only [Bool.and_eq_true] at h
  obtain ⟨⟨h1, h2⟩, h3⟩ := h
  refine ⟨fun t v hv => List.all_eq_true.1 h1 _ (mem_look hv), fun z o ho => List.all_eq_true.1 h2 _ (mem_look ho), fun i e he => ?_, fun i e z o he ho => ?_⟩
  · have := List.all_eq_true.1 h3 _ (mem_look he)
    simp only [Bool.and_eq_true] at this
    exact this.1
  · have := List.all_eq_true.1 h3 _ (mem_look he)
    simp only [Bool.and_eq_true] at this
    have := List.all_eq_true.1 this.2 _ (mem_look ho)
    simp only [Bool.and_eq_true] at this
    obtain ⟨⟨k1, k2⟩, k3⟩ := this
    refine ⟨k1, Option.isNone_iff_eq_none.1 k2, fun j f hf hne => ?_⟩
    have := List.all_eq_true.1 k3 _ (mem_look hf)
    simp only [Bool.or_eq_true, Bool.not_eq_true'] at this
    rcases this with h | h
    · exact absurd (Nat.eq_of_beq_eq_true h) hne
    · unfold bsX at h
      cases hz : look z f.bs with
      | none => rfl
      | some q => rw [hz] at h; cases h
theorem newX_of {es : Ents} {i : Nat} {e : Ent} (h : look i es = some e) {z : Nat} (hz : bsX e.bs z = true) : newX es z = true := by
  unfold newX
  rw [List.any_eq_true]
  exact ⟨(i, e), mem_look h, hz⟩
theorem otherX_of {es : Ents} {i j : Nat} {e : Ent} {c : List Nat} (h : look i es = some e) (hij : i ≠ j) (hc : i ∉ c) {z : Nat} (hz : bsX e.bs z = true) : otherX es j c z = true := by
  unfold otherX
  rw [List.any_eq_true]
  refine ⟨(i, e), mem_look h, ?_⟩
  simp only [Bool.and_eq_true, Bool.not_eq_true']
  refine ⟨⟨beq_ne hij, ?_⟩, hz⟩
  cases hh : hasN i c
  · rfl
  · exact absurd (hasN_mem.1 hh) hc

/-! ### All orders -/
structure Calm2 (l : List Oper) (s0 : St) (es : Ents) (listed : Array Bool) (s : St) : Prop where
  n : s.n = s0.n
  size : listed.size = l.length
  got : ∀ j e, listed.getD j false = true → look j es = some e → look e.d s.tm = some e.v
  old : ∀ t, (∀ j e, listed.getD j false = true → look j es = some e → e.d ≠ t) → look t s.tm = look t s0.tm
  gotH : ∀ j e z o, listed.getD j false = true → look j es = some e → look z e.bs = some o → look z s.hp = some o
  oldH : ∀ z, (∀ j e, listed.getD j false = true → look j es = some e → look z e.bs = none) → look z s.hp = look z s0.hp
  closed : ∀ j o, listed.getD j false = true → l[j]? = some o → ∀ i ∈ bindsOf o.after.toList, listed.getD i false = true

def depsOk : Nat → List Oper → Bool
  | _, [] => true
  | i, o :: r => (bindsOf o.after.toList).all (fun j => Nat.blt j i) && depsOk (i + 1) r
def calmP (l p : List Oper) (n : Nat) : Nat → List Oper → Bool
  | _, [] => true
  | i, o :: r => (match o.dst with | some d => Nat.ble (d + 1) n | none => false) && pairOk l i o 0 p && calmP l p n (i + 1) r
theorem depsOk_at : ∀ {rest : List Oper} {i0 : Nat}, depsOk i0 rest = true → ∀ k o, rest[k]? = some o → ∀ j ∈ bindsOf o.after.toList, j < i0 + k
  | [], _, _, k, o, hk => by simp at hk
  | p :: r, i0, h, k, o, hk => by
    unfold depsOk at h
    simp only [Bool.and_eq_true] at h
    cases k with
    | zero =>
      simp only [List.getElem?_cons_zero, Option.some.injEq] at hk
      subst hk
      exact fun j hj => Nat.le_of_ble_eq_true (List.all_eq_true.1 h.1 j hj)
    | succ k =>
      have := depsOk_at h.2 k o (by simpa using hk)
      rw [show i0 + 1 + k = i0 + (k + 1) by omega] at this
      exact this
theorem calmP_at {l p : List Oper} {n : Nat} : ∀ {rest : List Oper} {i0 : Nat}, calmP l p n i0 rest = true → ∀ k o, rest[k]? = some o → (∃ d, o.dst = some d ∧ Nat.ble (d + 1) n = true) ∧ pairOk l (i0 + k) o 0 p = true
  | [], _, _, k, o, hk => by simp at hk
  | q :: r, i0, h, k, o, hk => by
    unfold calmP at h
    simp only [Bool.and_eq_true] at h
    obtain ⟨⟨h2, h3⟩, h4⟩ := h
    cases k with
    | zero =>
      simp only [List.getElem?_cons_zero, Option.some.injEq] at hk
      subst hk
      refine ⟨?_, h3⟩
      split at h2
      · rename_i d hd; exact ⟨d, hd, h2⟩
      · cases h2
    | succ k =>
      have := calmP_at h4 k o (by simpa using hk)
      rw [show i0 + 1 + k = i0 + (k + 1) by omega] at this
      exact this
theorem calm_any2 {P : Program} {T : Nat → Option TI} {tab : Tab} {lent : Bool} {l : List Oper} {cls : List (List Nat)} {s0 : St} {es : Ents} {m : Nat} {M0 : Mem} {Q : Exit → Act → World → Prop} (hT : ∀ t i, T t = some i → TF P t i) (hml : m ≤ l.length) (hk : KeysG es) (hlen : es.length = m)
    (hops : ∀ k o, k < m → l[k]? = some o → OpAt2 P T tab lent l cls s0 es k o) (hdep : depsOk 0 l = true) (hok : calmP l (l.take m) s0.n 0 (l.take m) = true) (hcl : clsOk l cls 0 l = true) (hes : EntsOk cls s0 es) (htail : ∀ t, m ≤ t → t < l.length → ∀ j, j < m → j ∈ clsAt cls t)
    (hq : ∀ M a, Ext big M0 M → Rel M ⟨s0.n, insAll (valsOf es) s0.tm, hpAll es s0.hp⟩ a → wpAny P .any l.toArray (QN Q) (l.length - m) (List.replicate m true ++ List.replicate (l.length - m) false).toArray a M.w) :
    ∀ (fuel : Nat) (listed : Array Bool) (s : St), left listed.toList = fuel → Calm2 l s0 es listed s → (∀ t, m ≤ t → listed.getD t false = false) → ∀ M a, Ext big M0 M → Rel M s a → wpAny P .any l.toArray (QN Q) fuel listed a M.w := by
  have done : ∀ (listed : Array Bool) (s : St), Calm2 l s0 es listed s → (∀ t, m ≤ t → listed.getD t false = false) → (∀ j, j < m → listed.getD j false = true) → ∀ M a, Ext big M0 M → Rel M s a → wpAny P .any l.toArray (QN Q) (left listed.toList) listed a M.w := by
    intro listed s hcalm hno hall M a he hr
    have hle : listed.toList = List.replicate m true ++ List.replicate (l.length - m) false := by
      apply List.ext_getElem?
      intro k
      by_cases hk1 : k < l.length
      · have hks : k < listed.size := by rw [hcalm.size]; exact hk1
        have hg : listed.toList[k]? = some (listed.getD k false) := by
          rw [Array.getElem?_toList, Array.getElem?_eq_getElem hks, Array.getD_eq_getD_getElem?, Array.getElem?_eq_getElem hks]; rfl
        rw [hg]
        by_cases hkm : k < m
        · rw [hall k hkm, List.getElem?_append_left (by simpa using hkm), List.getElem?_replicate, if_pos hkm]
        · rw [hno k (by omega), List.getElem?_append_right (by simp; omega), List.getElem?_replicate, if_pos (by simp; omega)]
      · rw [List.getElem?_eq_none (by rw [Array.length_toList, hcalm.size]; omega), List.getElem?_eq_none (by simp; omega)]
    have hla : listed = (List.replicate m true ++ List.replicate (l.length - m) false).toArray := by rw [← hle]
    have hlf : left listed.toList = l.length - m := by
      rw [hle]
      have h1 : ∀ q, left (List.replicate q false) = q := by
        intro q
        induction q with
        | zero => rfl
        | succ q ih => simp only [List.replicate_succ, left, cond_false, ih]; omega
      have h2 : ∀ p (r : List Bool), left (List.replicate p true ++ r) = left r := by
        intro p r
        induction p with
        | zero => simp
        | succ p ih => simp only [List.replicate_succ, List.cons_append, left, cond_true, ih]; omega
      rw [h2, h1]
    obtain ⟨M', h1, h2, h3⟩ := hr.alike (s2 := ⟨s0.n, insAll (valsOf es) s0.tm, hpAll es s0.hp⟩) hcalm.n.symm (fun z => by
      show look z (hpAll es s0.hp) = _
      rcases hpAll_at (H := s0.hp) (z := z) (es := es) with ⟨p, hp, o, h1, h2⟩ | ⟨h1, h2⟩
      · obtain ⟨k, e⟩ := p
        have hlk := hk.mem hp
        rw [h2, hcalm.gotH k e z o (hall k (by rw [← hlen]; exact hk.lt hlk)) hlk h1]
      · rw [h2, hcalm.oldH z (fun j e _ hj => h1 (j, e) (mem_look hj))]) (fun t x hx => by
      rcases insAll_at (keys_vals hk) hx with ⟨j, hj⟩ | ⟨h1, h2⟩
      · rw [look_vals, Option.map_eq_some_iff] at hj
        obtain ⟨e, he, hee⟩ := hj
        cases hee
        exact hcalm.got j e (hall j (by rw [← hlen]; exact hk.lt he)) he
      · rw [hcalm.old t (fun j e _ hj => h2 j e.d e.v (by rw [look_vals, hj]; rfl))]
        exact h1)
    rw [← h2, hlf, hla]
    exact hq M' a (he.trans h3) h1
  have allReady : ∀ (listed : Array Bool) (s : St), Calm2 l s0 es listed s → Region.ready .any l.toArray listed = [] → ∀ j, j < m → listed.getD j false = true := by
    intro listed s hcalm hrd j
    induction j using Nat.strongRecOn with
    | ind j ih =>
      intro hjm
      have hj : j < l.length := by omega
      cases hb : listed.getD j false with
      | true => rfl
      | false =>
        exfalso
        have hjs : j < listed.size := by rw [hcalm.size]; exact hj
        have hmem : j ∈ Region.ready .any l.toArray listed := by
          rw [mem_ready]
          refine ⟨?_, l[j], by simp [hj], fun e he hbe => ?_⟩
          · rw [Array.getD_eq_getD_getElem?, Array.getElem?_eq_getElem hjs] at hb ⊢
            exact hb
          · have hin : e.on ∈ bindsOf l[j].after.toList := mem_bindsOf.2 ⟨e, by simpa using he, hbe, rfl⟩
            have := depsOk_at hdep j l[j] (List.getElem?_eq_getElem hj) _ hin
            exact ih e.on (by omega) (by omega)
        rw [hrd] at hmem; cases hmem
  -- what is waited for, however far back, is listed
  have closedC : ∀ (listed : Array Bool) (s : St), Calm2 l s0 es listed s → ∀ j, j < l.length → (∀ o, l[j]? = some o → ∀ i ∈ bindsOf o.after.toList, listed.getD i false = true) → ∀ k ∈ clsAt cls j, listed.getD k false = true := by
    intro listed s hcalm j
    induction j using Nat.strongRecOn with
    | ind j ih =>
      intro hj hd k hk'
      have hjo : l[j]? = some l[j] := List.getElem?_eq_getElem hj
      have := clsOk_at hcl j l[j] hjo k (by rw [Nat.zero_add]; exact hk')
      rcases this with h | ⟨j', hj', h⟩
      · exact hd _ hjo k h
      · have hlt := depsOk_at hdep j l[j] hjo _ hj'
        rw [Nat.zero_add] at hlt
        have hl' := hd _ hjo j' hj'
        exact ih j' hlt (by omega) (fun o ho => hcalm.closed j' o hl' ho) k h
  have tailNo : ∀ (listed : Array Bool) (s : St), Calm2 l s0 es listed s → ∀ i ∈ Region.ready .any l.toArray listed, m ≤ i → ∀ j, j < m → listed.getD j false = true := by
    intro listed s hcalm i hi hmi j hj
    obtain ⟨_, o, ho, hdeps⟩ := mem_ready.1 hi
    have hil : i < l.length := by simpa using (Array.getElem?_eq_some_iff.1 ho).1
    have hio : l[i]? = some o := by simpa using ho
    refine closedC listed s hcalm i hil (fun q hq k hk' => ?_) j (htail i hmi hil j hj)
    rw [hio] at hq
    cases hq
    obtain ⟨e, he1, he2, rfl⟩ := mem_bindsOf.1 hk'
    exact hdeps e (by simpa using he1) he2
  intro fuel
  induction fuel with
  | zero =>
    intro listed s hleft hcalm hno M a he hr
    have hall : ∀ j, j < m → listed.getD j false = true := by
      intro j hj
      have hjs : j < listed.size := by rw [hcalm.size]; omega
      rw [Array.getD_eq_getD_getElem?, Array.getElem?_eq_getElem hjs]
      exact left_zero (l := listed.toList) hleft j _ (by rw [Array.getElem?_toList, Array.getElem?_eq_getElem hjs]; rfl)
    rw [← hleft]
    exact done listed s hcalm hno hall M a he hr
  | succ fuel ih =>
    intro listed s hleft hcalm hno M a he hr
    by_cases hall : ∀ j, j < m → listed.getD j false = true
    · rw [← hleft]
      exact done listed s hcalm hno hall M a he hr
    refine ⟨fun hrd => absurd (allReady listed s hcalm hrd) hall, fun i hi => ?_⟩
    have him : i < m := by
      rcases Nat.lt_or_ge i m with h | h
      · exact h
      · exact absurd (tailNo listed s hcalm i hi h) hall
    obtain ⟨h1, o, ho, hdeps⟩ := mem_ready.1 hi
    have hil : i < l.length := by simpa using (Array.getElem?_eq_some_iff.1 ho).1
    have hio : l[i]? = some o := by simpa using ho
    have his : i < listed.size := by rw [hcalm.size]; exact hil
    have hfalse : listed.getD i false = false := by
      rw [Array.getD_eq_getD_getElem?, Array.getElem?_eq_getElem his] at h1 ⊢
      exact h1
    have hdl : ∀ j ∈ bindsOf o.after.toList, listed.getD j false = true := by
      intro j hj
      obtain ⟨e, he1, he2, rfl⟩ := mem_bindsOf.1 hj
      exact hdeps e (by simpa using he1) he2
    have hcli : ∀ k ∈ clsAt cls i, listed.getD k false = true := closedC listed s hcalm i hil (fun q hq => by rw [hio] at hq; cases hq; exact hdl)
    have takeAt : ∀ j q, j < m → l[j]? = some q → (l.take m)[j]? = some q := fun j q hj hq => by rw [List.getElem?_take, if_pos hj]; exact hq
    have hlt := depsOk_at hdep i o hio
    obtain ⟨⟨d0, hd0, hdn⟩, hpair⟩ := calmP_at hok i o (takeAt i o him hio)
    rw [Nat.zero_add] at hlt hpair
    obtain ⟨d, cs, v, bs, ei, hd, hlook, hcs, hval, hvi, hvt⟩ := hops i o him hio
    rw [hd] at hd0
    have hdd : d = d0 := Option.some.inj hd0
    subst hdd
    have hdrop : l.drop i = o :: l.drop (i + 1) := by
      rw [List.drop_eq_getElem_cons hil]
      congr 1
      rw [List.getElem?_eq_getElem hil] at hio
      exact Option.some.inj hio
    have dstOf : ∀ j e, look j es = some e → ∃ q, j < m ∧ l[j]? = some q ∧ q.dst = some e.d := by
      intro j e hj
      have hjm : j < m := by rw [← hlen]; exact hk.lt hj
      have hjlen : j < l.length := by omega
      obtain ⟨dj, _, vj, bj, _, hdj, hlj, _⟩ := hops j l[j] hjm (List.getElem?_eq_getElem hjlen)
      rw [hj] at hlj
      cases hlj
      exact ⟨l[j], hjm, List.getElem?_eq_getElem hjlen, hdj⟩
    have hsub : ∀ t x, look t (pickSlots s0.tm (valsOf ei) (bindsOf o.after.toList) (usesOf l o)) = some x → look t s.tm = some x := by
      intro t x hx
      obtain ⟨hu, hx⟩ := pick_at hx
      rcases hx with hx | ⟨hx1, hx2⟩
      · obtain ⟨j, hj, hjv⟩ := depVal_some hx
        rw [look_vals, Option.map_eq_some_iff] at hjv
        obtain ⟨e, he', hee⟩ := hjv
        cases hee
        exact hcalm.got j e (hdl j hj) (hvi _ _ he')
      · rw [hcalm.old t ?_]
        · exact hx2
        · rintro j e hjl hjv rfl
          have hji : i ≠ j := by rintro rfl; rw [hfalse] at hjl; cases hjl
          obtain ⟨q, hjm, hjq, hdj⟩ := dstOf j e hjv
          obtain ⟨d'', hd'', hor, _⟩ := pairOk_at hpair j q (takeAt j q hjm hjq) (by omega)
          rw [Nat.zero_add] at hor
          rw [hdj] at hd''
          cases hd''
          rcases hor hu with hor | hor
          · obtain ⟨x', hx'⟩ := hvt j (hlt j hor)
            have := hvi _ _ hx'
            rw [hjv] at this
            cases this
            exact depVal_none hx1 j hor e.d e.v (by rw [look_vals, hx']; rfl) rfl
          · have := hcalm.closed j q hjl hjq i hor
            rw [hfalse] at this; cases this
    have hH : HSub (hpOf ei s0.hp (clsAt cls i)) s.hp := by
      intro z ob hz
      rcases hpOf_at hz with ⟨j, hj, e, he', hzb⟩ | hz
      · exact hcalm.gotH j e z ob (hcli j hj) (hvi _ _ he') hzb
      · rw [hcalm.oldH z ?_]
        · exact hz
        · intro j e hjl hj
          cases hzb : look z e.bs with
          | none => rfl
          | some o1 =>
            have := (hes.o j e z o1 hj hzb).2.1
            rw [this] at hz; cases hz
    refine calmVal2_sound (S := ⟨s0.n, pickSlots s0.tm (valsOf ei) (bindsOf o.after.toList) (usesOf l o), hpOf ei s0.hp (clsAt cls i)⟩) (s := s) hT hdrop hd (by rw [hcalm.n]; exact hdn) hval hcs hcalm.n.symm hH hsub hr fun M' a' s2 he' hr' hbh => ?_
    have hset : ∀ j, (listed.setIfInBounds i true).getD j false = (if j = i then true else listed.getD j false) := by
      intro j
      by_cases hji : j = i
      · subst hji
        rw [if_pos rfl, Array.getD_eq_getD_getElem?, Array.getElem?_setIfInBounds_self_of_lt his]; rfl
      · rw [if_neg hji, Array.getD_eq_getD_getElem?, Array.getElem?_setIfInBounds_ne (Ne.symm hji), ← Array.getD_eq_getD_getElem?]
    have hXn : ∀ z, bsX bs z = true → newX es z = true := fun z hz => newX_of hlook hz
    have hXo : ∀ j e, j ≠ i → listed.getD j false = true → look j es = some e → ∀ z, bsX bs z = true → otherX es j (clsAt cls j) z = true := by
      intro j e hji hjl hj z hz
      refine otherX_of hlook (Ne.symm hji) (fun hin => ?_) hz
      obtain ⟨q, _, hjq, _⟩ := dstOf j e hj
      have := closedC listed s hcalm j (by have := hk.lt hj; omega) (fun o' ho' => hcalm.closed j o' hjl ho') i hin
      rw [hfalse] at this; cases this
    refine ih (listed.setIfInBounds i true) s2 ?_ ⟨hbh.n.trans hcalm.n, by simp [hcalm.size], ?_, ?_, ?_, ?_, ?_⟩ (fun t ht => by rw [hset, if_neg (by omega)]; exact hno t ht) M' a' (he.trans he') hr'
    · have hlf : listed.toList[i]? = some false := by
        rw [Array.getElem?_toList, Array.getElem?_eq_getElem his]
        rw [Array.getD_eq_getD_getElem?, Array.getElem?_eq_getElem his] at hfalse
        exact congrArg some hfalse
      have := left_set hlf
      rw [Array.toList_setIfInBounds]
      omega
    · intro j e hjl hj
      rw [hset] at hjl
      rw [hbh.tm, look_ins]
      by_cases hji : j = i
      · subst hji
        rw [hlook] at hj
        cases hj
        rw [if_pos rfl]
      · rw [if_neg hji] at hjl
        obtain ⟨q, hjm, hjq, hdj⟩ := dstOf j e hj
        obtain ⟨d'', hd'', _, hne⟩ := pairOk_at hpair j q (takeAt j q hjm hjq) (by omega)
        rw [hdj] at hd''
        cases hd''
        rw [if_neg (hne d hd), look_mapV, hcalm.got j e hjl hj]
        simp only [Option.map_some]
        rw [refsA_clr (hXo j e hji hjl hj) (hes.v j e hj)]
    · intro t ht
      have htd : d ≠ t := ht i ⟨d, v, bs⟩ (by rw [hset, if_pos rfl]) hlook
      rw [hbh.tm, look_ins, if_neg (Ne.symm htd), look_mapV, hcalm.old t (fun j e hjl hj => ht j e (by rw [hset]; split; rfl; exact hjl) hj)]
      cases hl0 : look t s0.tm with
      | none => rfl
      | some w =>
        simp only [Option.map_some]
        rw [refsA_clr hXn (hes.tm t w hl0)]
    · intro j e z ob hjl hj hz
      rw [hset] at hjl
      by_cases hji : j = i
      · subst hji
        rw [hlook] at hj
        cases hj
        exact hbh.new z ob hz
      · rw [if_neg hji] at hjl
        have hnone : look z bs = none := (hes.o j e z ob hj hz).2.2 i ⟨d, v, bs⟩ hlook (Ne.symm hji)
        rw [hbh.old z hnone, hcalm.gotH j e z ob hjl hj hz]
        simp only [Option.map_some]
        rw [refsO_clr (hXo j e hji hjl hj) (hes.o j e z ob hj hz).1]
    · intro z hz
      have hnone : look z bs = none := hz i ⟨d, v, bs⟩ (by rw [hset, if_pos rfl]) hlook
      rw [hbh.old z hnone, hcalm.oldH z (fun j e hjl hj => hz j e (by rw [hset]; split; rfl; exact hjl) hj)]
      cases hl0 : look z s0.hp with
      | none => rfl
      | some w =>
        simp only [Option.map_some]
        rw [refsO_clr hXn (hes.hp z w hl0)]
    · intro j q hjl hjq i' hi'
      rw [hset] at hjl ⊢
      split
      · rfl
      · by_cases hji : j = i
        · subst hji
          rw [hio] at hjq
          cases hjq
          exact hdl i' hi'
        · rw [if_neg hji] at hjl
          exact hcalm.closed j q hjl hjq i' hi'

def tailOk (cls : List (List Nat)) (m : Nat) : Nat → Nat → Bool
  | _, 0 => true
  | t, k + 1 => (List.range m).all (fun j => hasN j (clsAt cls t)) && tailOk cls m (t + 1) k
theorem tailOk_at {cls : List (List Nat)} {m : Nat} : ∀ {k t0 : Nat}, tailOk cls m t0 k = true → ∀ t, t0 ≤ t → t < t0 + k → ∀ j, j < m → j ∈ clsAt cls t
  | 0, t0, _, t, h1, h2, _, _ => by omega
  | k + 1, t0, h, t, h1, h2, j, hj => by
    unfold tailOk at h
    simp only [Bool.and_eq_true] at h
    by_cases ht : t = t0
    · subst ht
      exact hasN_mem.1 (List.all_eq_true.1 h.1 j (List.mem_range.2 hj))
    · exact tailOk_at h.2 t (by omega) (by omega) j hj
/-- The run of the first m operations, then all orders of the rest. -/
def calmCut2 (P : Program) (T : Nat → Option TI) (tab : Tab) (lent : Bool) (l : List Oper) (cls : List (List Nat)) (m : Nat) (ks hs : List Nat) (s : St) : Option (Bool × List (Nat × List Prop) × List Leaf) :=
  match run2 P T tab lent l cls s (l.take m) 0 [] with
  | some (cds, es) => (match explore P T tab lent l (l.length - m) (List.replicate m true ++ List.replicate (l.length - m) false).toArray [] ⟨s.n, insAll (valsOf es) s.tm, hpAll es s.hp⟩ with
    | some ls => some (entsOk cls s es, cds, ls.map fun y => (y.1, cutS ks hs y.2))
    | none => none)
  | none => none
/-- A region that draws its order, of reads, of new blocks and of calls; then a tail. -/
theorem awp_calm2 {P : Program} {T : Nat → Option TI} {K : Post} {s : St} {id : Nat} {l : List Oper} (tab : Tab) (lent : Bool) (cls : List (List Nat)) (m : Nat) (ks hs : List Nat) (cds cd2 : List (Nat × List Prop)) (n : Nat) (s' : St) (hm : P.follows .mixedOrders = true) (hsel : Region.noSelect l.toArray = true) (hT : ∀ t i, T t = some i → TF P t i)
    (hok : (Nat.ble m l.length && (depsOk 0 l && calmP l (l.take m) s.n 0 (l.take m)) && clsOk l cls 0 l && tailOk cls m m (l.length - m)) = true) (h : calmCut2 P T tab lent l cls m ks hs s = some (true, cds, List.replicate n (cd2, s'))) (hc : AllC cds) (hc2 : AllC cd2) (hk : K .normal s') : AWp P (.region id l.toArray true) K s := ⟨fun M0 M a he hr => by
  simp only [Bool.and_eq_true] at hok
  obtain ⟨⟨⟨hml, hdep, hok1⟩, hok2⟩, hok3⟩ := hok
  have hml := Nat.le_of_ble_eq_true hml
  unfold calmCut2 at h
  split at h
  · rename_i cds1 es hrun
    split at h
    · rename_i ls hls
      simp only [Option.some.injEq, Prod.mk.injEq] at h
      obtain ⟨hes, rfl, hlv⟩ := h
      obtain ⟨h1, h2, _, h4⟩ := run2_at (l.take m) [] trivial hrun hc
      have hleaf : ∀ y ∈ ls, AllC y.1 ∧ ∀ M a, Ext big M0 M → Rel M y.2 a → Qc K M0 .normal a M.w := by
        intro y hy
        have hmem : (y.1, cutS ks hs y.2) ∈ List.replicate n (cd2, s') := by
          rw [← hlv]
          exact List.mem_map_of_mem (f := fun y : Leaf => (y.1, cutS ks hs y.2)) hy
        have heq := List.eq_of_mem_replicate hmem
        simp only [Prod.mk.injEq] at heq
        refine ⟨by rw [heq.1]; exact hc2, fun M a he hr => ?_⟩
        obtain ⟨M', h3, h4, h5⟩ := awk_cut ks hs y.2 M a hr
        rw [heq.2] at h3
        exact ⟨s', M', hk, h3, h4, he.trans h5⟩
      have hall := calm_any2 (M0 := M0) (Q := Qc K M0) hT hml h1 (by rw [h2]; simp; omega) (fun k o hkm hko => by
          have := h4 k o (by rw [List.getElem?_take, if_pos hkm]; exact hko)
          rwa [List.length_nil, Nat.zero_add] at this) hdep hok1 hok2 (entsOk_all hes) (fun t ht1 ht2 j hj => tailOk_at hok3 t ht1 (by omega) j hj)
        (fun M a he hr => explore_sound (M0 := M0) (Q := Qc K M0) hT hsel (l.length - m) _ [] _ ls hls hleaf M a he hr)
        l.length (Array.replicate l.length false) s (by
          have : ∀ n, left (List.replicate n false) = n := by
            intro n
            induction n with
            | zero => rfl
            | succ n ih => simp only [List.replicate_succ, left, cond_false, ih]; omega
          rw [Array.toList_replicate, this])
        (by
          have no : ∀ j, (Array.replicate l.length false).getD j false = true → False := fun j hj => by simp [Array.getD_eq_getD_getElem?, Array.getElem?_replicate] at hj; split at hj <;> simp at hj
          exact ⟨rfl, by simp, fun j e hj => (no j hj).elim, fun t _ => rfl, fun j e z o hj => (no j hj).elim, fun z _ => rfl, fun j o hj => (no j hj).elim⟩)
        (fun t _ => by simp [Array.getD_eq_getD_getElem?, Array.getElem?_replicate]; split <;> rfl)
        M.drawn a (he.trans ((drawn_ext M).mono fun x hx => by cases hx)) (drawn_rel hr)
      refine wp_mono (wp_region_any (Q := QN (Qc K M0)) hm (by simp only [List.size_toArray]; exact hall)) fun e a w hq => ?_
      obtain ⟨rfl, hq⟩ := hq
      exact hq
    · cases h
  · cases h⟩
end Go.Ab
