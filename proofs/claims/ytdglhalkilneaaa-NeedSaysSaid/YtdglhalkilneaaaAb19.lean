/- The abstract machine, part 19: a region that draws its order, of reads and of calls that leave nothing: one order tells for all. -/
import Derived.Test.YtdglhalkilneaaaAb18
namespace Go.Ab
open Go

/-- The operations that one waits for. -/
def bindsOf : List Edge → List Nat
  | [] => []
  | e :: r => cond (Region.binds .any e) (e.on :: bindsOf r) (bindsOf r)
theorem mem_bindsOf {j : Nat} : ∀ {l : List Edge}, j ∈ bindsOf l ↔ ∃ e ∈ l, Region.binds .any e = true ∧ e.on = j
  | [] => by simp [bindsOf]
  | e :: r => by
    unfold bindsOf
    cases hb : Region.binds .any e
    · simp only [cond_false, mem_bindsOf (l := r), List.mem_cons, exists_eq_or_imp, hb, Bool.false_eq_true, false_and, false_or]
    · simp only [cond_true, List.mem_cons, mem_bindsOf (l := r), exists_eq_or_imp, hb, true_and]
      constructor
      · rintro (h | h)
        · exact .inl h.symm
        · exact .inr h
      · rintro (h | h)
        · exact .inl h.symm
        · exact .inr h
/-- The slots that an operation looks at. -/
def usesOf (l : List Oper) (o : Oper) : List Nat :=
  (match o.guard with | some (j, _) => (match (l.toArray[j]?).bind (·.dst) with | some t => [t] | none => []) | none => []) ++ tmpsOf o.op.operands.toList
abbrev Vals := List (Nat × (Nat × AV))
def depVal (vals : Vals) : List Nat → Nat → Option AV
  | [], _ => none
  | j :: r, t => (match look j vals with | some (d, v) => cond (Nat.beq d t) (some v) (depVal vals r t) | none => depVal vals r t)
def pickSlots (tm : List (Nat × AV)) (vals : Vals) (deps : List Nat) : List Nat → List (Nat × AV)
  | [] => []
  | t :: r => (match depVal vals deps t with
    | some v => ins t v (pickSlots tm vals deps r)
    | none => (match look t tm with | some v => ins t v (pickSlots tm vals deps r) | none => pickSlots tm vals deps r))
def wrapG (gd : Option (Nat × Bool)) (g : Bool) (v : AV) : AV := match gd with | none => v | some _ => .whn g v
def wrapC (gd : Option (Nat × Bool)) (g : Bool) (cs : List Prop) : List Prop := match gd with | none => cs | some _ => whnAll g cs
theorem wrapC_true {gd : Option (Nat × Bool)} {cs : List Prop} (h : AllP (wrapC gd true cs)) : AllP cs := by
  cases gd with
  | none => exact h
  | some q => exact whnAll_true rfl h
/-- What an operation owes and its value, if it is a read, or a call that leaves nothing. -/
def calmVal (P : Program) (T : Nat → Option TI) (tab : Tab) (lent : Bool) (l : List Oper) (i : Nat) (s : St) : Option (List Prop × AV) :=
  match l.drop i with
  | o :: _ =>
    (match guardOf l.toArray s o.guard with
    | some g =>
      (match stepRd T s g o.op with
      | some (cs, v) => some (wrapC o.guard g cs, wrapG o.guard g v)
      | none => (match preCall [] lent l i s, look i tab with
        | some p, some c => (match c.new with
          | [] => some ([p.g = true → (AllP p.cs ∧ p.args = c.args ∧ ACall P p.f c.args [] (fun v H => v = c.res ∧ H = []))], wrapG o.guard p.g (liftA (outV [] lent) c.res))
          | _ :: _ => none)
        | _, _ => none))
    | none => none)
  | [] => none
def calmRun (P : Program) (T : Nat → Option TI) (tab : Tab) (lent : Bool) (l : List Oper) (s : St) : List Oper → Nat → Vals → Option (List (Nat × List Prop) × Vals)
  | [], _, vals => some ([], vals)
  | o :: r, i, vals =>
    (match o.dst with
    | some d =>
      (match calmVal P T tab lent l i ⟨s.n, pickSlots s.tm vals (bindsOf o.after.toList) (usesOf l o), s.hp⟩ with
      | some (cs, v) => (match calmRun P T tab lent l s r (i + 1) ((i, (d, v)) :: vals) with | some (cds, vs) => some ((i, cs) :: cds, vs) | none => none)
      | none => none)
    | none => none)
def insAll : Vals → List (Nat × AV) → List (Nat × AV)
  | [], tm => tm
  | (_, (d, v)) :: r, tm => ins d v (insAll r tm)
def calmCut (P : Program) (T : Nat → Option TI) (tab : Tab) (lent : Bool) (l : List Oper) (ks hs : List Nat) (s : St) : Option (List (Nat × List Prop) × St) :=
  match calmRun P T tab lent l s l 0 [] with
  | some (cds, vs) => some (cds, cutS ks hs ⟨s.n, insAll vs s.tm, s.hp⟩)
  | none => none
/-- No operation takes away what another still wants; each waits for earlier ones alone; each has a slot of its own. -/
def pairOk (l : List Oper) (i : Nat) (o : Oper) : Nat → List Oper → Bool
  | _, [] => true
  | j, q :: r => (Nat.beq i j ||
      (match q.dst with
      | some d => (!(hasN d (usesOf l o)) || hasN j (bindsOf o.after.toList) || hasN i (bindsOf q.after.toList)) && (match o.dst with | some e => !(Nat.beq d e) | none => false)
      | none => false)) && pairOk l i o (j + 1) r
def calmOk (l : List Oper) (n : Nat) : Nat → List Oper → Bool
  | _, [] => true
  | i, o :: r => (bindsOf o.after.toList).all (fun j => Nat.blt j i) && (match o.dst with | some d => Nat.ble (d + 1) n | none => false) && pairOk l i o 0 l && calmOk l n (i + 1) r

/-! ### Less is looked at, the same is seen -/
section
variable {P : Program} {T : Nat → Option TI} {S s : St}
theorem Rel.sub {M : Mem} {a : Act} (hr : Rel M s a) (hn : S.n = s.n) (hp : S.hp = s.hp) (h : ∀ t x, look t S.tm = some x → look t s.tm = some x) : Rel M S a :=
  ⟨by rw [hp]; exact hr.hp, hr.ok, hr.defers, by rw [hn]; exact hr.size, fun d v hd => hr.tm d v (h d v hd)⟩
theorem raw_mono (h : ∀ t x, look t S.tm = some x → look t s.tm = some x) {x : Operand} {v : AV} (hx : S.raw x = some v) : s.raw x = some v := by
  cases x with
  | tmp t => exact h t v hx
  | const c => exact hx
  | func f => exact hx
  | global g => exact hx
theorem ev_mono (h : ∀ t x, look t S.tm = some x → look t s.tm = some x) {g : Bool} {ts : List Nat} {x : Operand} {v : AV} (hx : S.ev g ts x = some v) : s.ev g ts x = some v := by
  unfold St.ev at hx ⊢
  cases hS : S.raw x with
  | none => rw [hS] at hx; cases hx
  | some w => rw [hS] at hx; rw [raw_mono h hS]; exact hx
theorem ev_there {g : Bool} {ts : List Nat} {t : Nat} {v : AV} (hx : S.ev g ts (.tmp t) = some v) : ∃ w, look t S.tm = some w := by
  unfold St.ev at hx
  cases hS : S.raw (.tmp t) with
  | none => rw [hS] at hx; cases hx
  | some w => exact ⟨w, hS⟩
theorem rawL_mono {e1 e2 : Operand → Option AV} (h : ∀ x v, e1 x = some v → e2 x = some v) : ∀ {xs : List Operand} {vs : List AV}, rawL e1 xs = some vs → rawL e2 xs = some vs
  | [], _, hx => hx
  | x :: r, vs, hx => by
    unfold rawL at hx ⊢
    split at hx
    · rename_i v vs' h1 h2
      rw [h _ _ h1, rawL_mono h h2]
      exact hx
    · cases hx
theorem rawL_there {e : Operand → Option AV} : ∀ {xs : List Operand} {vs : List AV}, rawL e xs = some vs → ∀ x ∈ xs, ∃ v, e x = some v
  | [], _, _, x, hx => by cases hx
  | y :: r, vs, h, x, hx => by
    unfold rawL at h
    split at h
    · rename_i v vs' h1 h2
      rcases List.mem_cons.1 hx with rfl | hx
      · exact ⟨v, h1⟩
      · exact rawL_there h2 x hx
    · cases h
theorem mem_tmpsOf {t : Nat} : ∀ {xs : List Operand}, t ∈ tmpsOf xs → .tmp t ∈ xs
  | [], h => by cases h
  | x :: r, h => by
    cases x with
    | tmp u =>
      rcases List.mem_cons.1 h with rfl | h
      · exact List.mem_cons_self
      · exact List.mem_cons_of_mem _ (mem_tmpsOf h)
    | const c => exact List.mem_cons_of_mem _ (mem_tmpsOf h)
    | func c => exact List.mem_cons_of_mem _ (mem_tmpsOf h)
    | global c => exact List.mem_cons_of_mem _ (mem_tmpsOf h)
theorem owed_eq (h : ∀ t x, look t S.tm = some x → look t s.tm = some x) (g : Bool) : ∀ (ts : List Nat), (∀ t ∈ ts, ∃ w, look t S.tm = some w) → S.owed g ts = s.owed g ts
  | [], _ => rfl
  | t :: r, ht => by
    obtain ⟨w, hw⟩ := ht t List.mem_cons_self
    unfold St.owed
    rw [hw, h _ _ hw, owed_eq h g r (fun t' h' => ht t' (List.mem_cons_of_mem _ h'))]
theorem guardOf_mono (h : ∀ t x, look t S.tm = some x → look t s.tm = some x) {ops : Array Oper} {gd : Option (Nat × Bool)} {g : Bool} (hg : guardOf ops S gd = some g) : guardOf ops s gd = some g := by
  unfold guardOf at hg ⊢
  split at hg
  · exact hg
  · split at hg
    · split at hg
      · rename_i v hv
        rw [h _ _ hv]
        exact hg
      · cases hg
    · cases hg
theorem preCall_mono (h : ∀ t x, look t S.tm = some x → look t s.tm = some x) (hp : S.hp = s.hp) {lent : Bool} {l : List Oper} {k : Nat} {p : Pre} (hpre : preCall [] lent l k S = some p) : preCall [] lent l k s = some p := by
  unfold preCall at hpre ⊢
  split at hpre
  · split at hpre
    · rename_i g c hg hop
      rw [guardOf_mono h hg, hop]
      simp only
      split at hpre
      · rename_i x hx
        split at hpre
        · rename_i f caps avs hh e1 e2 e3
          rw [ev_mono h e1, rawL_mono (fun _ _ => ev_mono h) e2, ← hp, e3]
          simp only
          rw [← hpre]
          have : S.owed g (tmpsOf (x :: c.args.toList)) = s.owed g (tmpsOf (x :: c.args.toList)) := owed_eq h g _ fun t ht => by
            rcases List.mem_cons.1 (mem_tmpsOf ht) with hxt | hxt
            · subst hxt; exact ev_there e1
            · obtain ⟨v, hv⟩ := rawL_there e2 _ hxt
              exact ev_there hv
          rw [this]
        · cases hpre
      · cases hpre
    · cases hpre
  · cases hpre

theorem calmVal_sound {l : List Oper} {tab : Tab} {lent : Bool} {i d : Nat} {cs : List Prop} {v : AV} {o : Oper} {r : List Oper} (hT : ∀ t i, T t = some i → TF P t i) (hl : l.drop i = o :: r) (hd : o.dst = some d) (hdn : Nat.ble (d + 1) s.n = true)
    (h : calmVal P T tab lent l i S = some (cs, v)) (hc : AllP cs) (hn : S.n = s.n) (hp : S.hp = s.hp) (hsub : ∀ t x, look t S.tm = some x → look t s.tm = some x) {M : Mem} {a : Act} {Kx : Act → World → Prop} {Q : Exit → Act → World → Prop} (hr : Rel M s a)
    (hk : ∀ M' a', Ext big M M' → Rel M' ⟨s.n, ins d v s.tm, s.hp⟩ a' → Kx a' M'.w) : wpOp P l.toArray Q i Kx a M.w := by
  have hput : ∀ x, putD o.dst x s.n s.tm = some (ins d x s.tm) := fun x => by rw [hd]; simp only [putD, hdn, cond_true]
  have hrS := hr.sub hn hp hsub
  unfold calmVal at h
  rw [hl] at h
  simp only at h
  split at h
  · rename_i g hgo
    split at h
    · rename_i cs1 v1 hrd
      simp only [Option.some.injEq, Prod.mk.injEq] at h
      obtain ⟨rfl, rfl⟩ := h
      have hw := guard_sound hrS hgo
      refine wpOp_of_ok ?_
      unfold OpOk
      rw [hl]
      simp only
      cases hg : g
      · rw [if_neg (by rw [hw, hg]; decide)]
        have hgd : ∃ q, o.guard = some q := by
          cases hq : o.guard with
          | none => rw [hq] at hgo; simp only [guardOf, Option.some.injEq] at hgo; rw [← hgo] at hg; cases hg
          | some q => exact ⟨q, rfl⟩
        obtain ⟨q, hq⟩ := hgd
        refine hk M _ (Ext.refl _ _) ?_
        have hv : AVR M (wrapG o.guard g v1) undef := by
          rw [hq, hg]; exact ⟨fun h => (by cases h), fun _ => rfl⟩
        exact hr.put (hput _) hv
      · rw [if_pos (by rw [hw, hg])]
        refine .inl ?_
        rw [hg] at hc hrd
        obtain ⟨u, hu, huv⟩ := stepRd_sound (P := P) hT rfl hrS hrd (wrapC_true hc)
        unfold Oper.wp
        rw [hu]
        refine hk M _ (Ext.refl _ _) ?_
        have hv : AVR M (wrapG o.guard g v1) u := by
          unfold wrapG
          split
          · exact huv
          · rw [hg]; exact ⟨fun _ => huv, fun h => by cases h⟩
        exact hr.put (hput _) hv
    · split at h
      · rename_i p c hpre htab
        split at h
        · simp only [Option.some.injEq, Prod.mk.injEq] at h
          obtain ⟨rfl, rfl⟩ := h
          have hcond := hc.1
          have hpre2 := preCall_mono hsub hp hpre
          refine wpOp_of_ok (pure_op lent p c.args c.res ⟨s.n, ins d (wrapG o.guard p.g (liftA (outV [] lent) c.res)) s.tm, s.hp⟩ hpre2 ?_ (fun hg => (hcond hg).1) (fun hg => (hcond hg).2.1) (fun hg => (hcond hg).2.2) hr hk)
          unfold pureS
          rw [hl]
          simp only
          cases hgd : o.guard with
          | none => simp only [hput, wrapG]
          | some q => simp only [hput, wrapG]
        · cases h
      · cases h
  · cases h
end

/-! ### The slots' values, one by one -/
theorem pick_at {tm : List (Nat × AV)} {vals : Vals} {deps : List Nat} {t : Nat} {v : AV} : ∀ {us : List Nat}, look t (pickSlots tm vals deps us) = some v → t ∈ us ∧ (depVal vals deps t = some v ∨ (depVal vals deps t = none ∧ look t tm = some v))
  | [], h => by cases h
  | u :: r, h => by
    unfold pickSlots at h
    split at h
    · rename_i w hw
      rw [look_ins] at h
      by_cases htu : t = u
      · rw [if_pos htu] at h
        cases h
        subst htu
        exact ⟨List.mem_cons_self, .inl hw⟩
      · rw [if_neg htu] at h
        obtain ⟨h1, h2⟩ := pick_at h
        exact ⟨List.mem_cons_of_mem _ h1, h2⟩
    · rename_i hw
      split at h
      · rename_i w hw2
        rw [look_ins] at h
        by_cases htu : t = u
        · rw [if_pos htu] at h
          cases h
          subst htu
          exact ⟨List.mem_cons_self, .inr ⟨hw, hw2⟩⟩
        · rw [if_neg htu] at h
          obtain ⟨h1, h2⟩ := pick_at h
          exact ⟨List.mem_cons_of_mem _ h1, h2⟩
      · obtain ⟨h1, h2⟩ := pick_at h
        exact ⟨List.mem_cons_of_mem _ h1, h2⟩
theorem depVal_some {vals : Vals} {t : Nat} {v : AV} : ∀ {deps : List Nat}, depVal vals deps t = some v → ∃ j ∈ deps, look j vals = some (t, v)
  | [], h => by cases h
  | j :: r, h => by
    unfold depVal at h
    split at h
    · rename_i d w hj
      cases hb : Nat.beq d t
      · rw [hb] at h
        obtain ⟨k, hk, hv⟩ := depVal_some h
        exact ⟨k, List.mem_cons_of_mem _ hk, hv⟩
      · rw [hb] at h
        simp only [cond_true, Option.some.injEq] at h
        subst h
        have := Nat.eq_of_beq_eq_true hb
        subst this
        exact ⟨j, List.mem_cons_self, hj⟩
    · obtain ⟨k, hk, hv⟩ := depVal_some h
      exact ⟨k, List.mem_cons_of_mem _ hk, hv⟩
theorem depVal_none {vals : Vals} {t : Nat} : ∀ {deps : List Nat}, depVal vals deps t = none → ∀ j ∈ deps, ∀ d v, look j vals = some (d, v) → d ≠ t
  | [], _, j, hj => by cases hj
  | k :: r, h, j, hj => by
    unfold depVal at h
    intro d v hjv
    split at h
    · rename_i d' w hk
      cases hb : Nat.beq d' t
      · rw [hb] at h
        rcases List.mem_cons.1 hj with rfl | hj
        · rw [hk] at hjv
          cases hjv
          rintro rfl
          rw [beq_self] at hb; cases hb
        · exact depVal_none h j hj d v hjv
      · rw [hb] at h; cases h
    · rename_i hk
      rcases List.mem_cons.1 hj with rfl | hj
      · rw [hk] at hjv; cases hjv
      · exact depVal_none h j hj d v hjv

/-- The numbers of the values are those of the operations, the last one first. -/
def KeysOk : Vals → Prop
  | [] => True
  | (k, _) :: r => k = r.length ∧ KeysOk r
theorem KeysOk.lt : ∀ {vs : Vals}, KeysOk vs → ∀ {j : Nat} {x : Nat × AV}, look j vs = some x → j < vs.length
  | [], _, _, _, h => by cases h
  | (k, y) :: r, hk, j, x, h => by
    unfold look at h
    cases hb : Nat.beq k j
    · rw [hb] at h
      have := KeysOk.lt hk.2 h
      simp only [List.length_cons]; omega
    · have := Nat.eq_of_beq_eq_true hb
      have := hk.1
      simp only [List.length_cons]; omega
theorem KeysOk.there : ∀ {vs : Vals}, KeysOk vs → ∀ {j : Nat}, j < vs.length → ∃ x, look j vs = some x
  | [], _, _, h => by simp at h
  | (k, y) :: r, hk, j, h => by
    unfold look
    cases hb : Nat.beq k j
    · have hne : k ≠ j := by rintro rfl; rw [beq_self] at hb; cases hb
      have := hk.1
      simp only [List.length_cons] at h
      exact KeysOk.there hk.2 (by omega)
    · exact ⟨y, rfl⟩
theorem KeysOk.up {vs : Vals} (hk : KeysOk vs) {y : Nat × AV} {j : Nat} {x : Nat × AV} (h : look j vs = some x) : look j ((vs.length, y) :: vs) = some x := by
  unfold look
  have := hk.lt h
  rw [beq_ne (show vs.length ≠ j by omega)]
  exact h
theorem insAll_at {tm : List (Nat × AV)} {t : Nat} {v : AV} : ∀ {vs : Vals}, KeysOk vs → look t (insAll vs tm) = some v → (∃ j, look j vs = some (t, v)) ∨ (look t tm = some v ∧ ∀ j d w, look j vs = some (d, w) → d ≠ t)
  | [], _, h => .inr ⟨h, fun j d w hj => by cases hj⟩
  | (k, (d, w)) :: r, hk, h => by
    unfold insAll at h
    rw [look_ins] at h
    obtain ⟨hk1, hk2⟩ := hk
    subst hk1
    by_cases htd : t = d
    · rw [if_pos htd] at h
      cases h
      subst htd
      refine .inl ⟨r.length, ?_⟩
      unfold look; rw [beq_self]; rfl
    · rw [if_neg htd] at h
      rcases insAll_at hk2 h with ⟨j, hj⟩ | ⟨h1, h2⟩
      · exact .inl ⟨j, hk2.up hj⟩
      · refine .inr ⟨h1, fun j d' w' hj => ?_⟩
        unfold look at hj
        cases hb : Nat.beq r.length j
        · rw [hb] at hj; exact h2 j d' w' hj
        · rw [hb] at hj
          simp only [cond_true, Option.some.injEq, Prod.mk.injEq] at hj
          obtain ⟨rfl, _⟩ := hj
          exact fun h => htd h.symm

/-- Of each operation: what the run shows. -/
def OpAt (P : Program) (T : Nat → Option TI) (tab : Tab) (lent : Bool) (l : List Oper) (s : St) (vs : Vals) (i : Nat) (o : Oper) : Prop :=
  ∃ d cs v, ∃ vi : Vals, o.dst = some d ∧ look i vs = some (d, v) ∧ AllP cs ∧ calmVal P T tab lent l i ⟨s.n, pickSlots s.tm vi (bindsOf o.after.toList) (usesOf l o), s.hp⟩ = some (cs, v) ∧
    (∀ j x, look j vi = some x → look j vs = some x) ∧ (∀ j, j < i → ∃ x, look j vi = some x)
theorem calmRun_at {P : Program} {T : Nat → Option TI} {tab : Tab} {lent : Bool} {l : List Oper} {s : St} : ∀ (rest : List Oper) (vals : Vals) {cds : List (Nat × List Prop)} {vs : Vals}, KeysOk vals → calmRun P T tab lent l s rest vals.length vals = some (cds, vs) → AllC cds →
    KeysOk vs ∧ vs.length = vals.length + rest.length ∧ (∀ j x, look j vals = some x → look j vs = some x) ∧ ∀ k o, rest[k]? = some o → OpAt P T tab lent l s vs (vals.length + k) o
  | [], vals, cds, vs, hk, h, _ => by
    simp only [calmRun, Option.some.injEq, Prod.mk.injEq] at h
    obtain ⟨_, rfl⟩ := h
    exact ⟨hk, rfl, fun _ _ h => h, fun k o hko => by simp at hko⟩
  | o :: r, vals, cds, vs, hk, h, hc => by
    unfold calmRun at h
    split at h
    · rename_i d hd
      split at h
      · rename_i cs v hv
        split at h
        · rename_i cds1 vs1 hrun
          simp only [Option.some.injEq, Prod.mk.injEq] at h
          obtain ⟨rfl, rfl⟩ := h
          have hk1 : KeysOk ((vals.length, (d, v)) :: vals) := ⟨rfl, hk⟩
          obtain ⟨a1, a2, a3, a4⟩ := calmRun_at r ((vals.length, (d, v)) :: vals) hk1 hrun hc.2
          refine ⟨a1, by simp only [List.length_cons] at a2 ⊢; omega, fun j x hj => a3 j x (hk.up hj), fun k q hq => ?_⟩
          cases k with
          | zero =>
            simp only [List.getElem?_cons_zero, Option.some.injEq] at hq
            subst hq
            refine ⟨d, cs, v, vals, hd, a3 _ _ (by unfold look; rw [Nat.add_zero, beq_self]; rfl), hc.1, hv, fun j x hj => a3 j x (hk.up hj), fun j hj => hk.there (by omega)⟩
          | succ k =>
            have := a4 k q (by simpa using hq)
            rw [show ((vals.length, (d, v)) :: vals).length + k = vals.length + (k + 1) by simp only [List.length_cons]; omega] at this
            exact this
        · cases h
      · cases h
    · cases h

theorem hasN_mem {t : Nat} : ∀ {l : List Nat}, hasN t l = true ↔ t ∈ l
  | [] => by simp [hasN]
  | u :: r => by
    unfold hasN
    cases hb : Nat.beq u t
    · have hne : u ≠ t := by rintro rfl; rw [beq_self] at hb; cases hb
      simp only [cond_false, hasN_mem (l := r), List.mem_cons]
      exact ⟨fun h => .inr h, fun h => h.resolve_left (fun e => hne e.symm)⟩
    · have := Nat.eq_of_beq_eq_true hb
      subst this
      simp
theorem pairOk_at {l : List Oper} {i : Nat} {o : Oper} : ∀ {rest : List Oper} {j0 : Nat}, pairOk l i o j0 rest = true → ∀ k q, rest[k]? = some q → i ≠ j0 + k → ∃ d, q.dst = some d ∧ (d ∈ usesOf l o → (j0 + k) ∈ bindsOf o.after.toList ∨ i ∈ bindsOf q.after.toList) ∧ ∀ e, o.dst = some e → d ≠ e
  | [], _, _, k, q, hk, _ => by simp at hk
  | p :: r, j0, h, k, q, hk, hne => by
    unfold pairOk at h
    simp only [Bool.and_eq_true] at h
    obtain ⟨h1, h2⟩ := h
    cases k with
    | zero =>
      simp only [List.getElem?_cons_zero, Option.some.injEq] at hk
      subst hk
      rw [beq_ne (by simpa using hne), Bool.false_or] at h1
      split at h1
      · rename_i d hd
        simp only [Bool.and_eq_true, Bool.or_eq_true, Bool.not_eq_true'] at h1
        obtain ⟨h3, h4⟩ := h1
        refine ⟨d, hd, fun hu => ?_, fun e he => ?_⟩
        · rcases h3 with (h3 | h3) | h3
          · rw [hasN_mem.2 hu] at h3; cases h3
          · exact .inl (hasN_mem.1 h3)
          · exact .inr (hasN_mem.1 h3)
        · rw [he] at h4
          simp only [Bool.not_eq_true'] at h4
          rintro rfl
          rw [beq_self] at h4; cases h4
      · cases h1
    | succ k =>
      have := pairOk_at h2 k q (by simpa using hk) (by omega)
      rw [show j0 + 1 + k = j0 + (k + 1) by omega] at this
      exact this
theorem calmOk_at {l : List Oper} {n : Nat} : ∀ {rest : List Oper} {i0 : Nat}, calmOk l n i0 rest = true → ∀ k o, rest[k]? = some o → (∀ j ∈ bindsOf o.after.toList, j < i0 + k) ∧ (∃ d, o.dst = some d ∧ Nat.ble (d + 1) n = true) ∧ pairOk l (i0 + k) o 0 l = true
  | [], _, _, k, o, hk => by simp at hk
  | p :: r, i0, h, k, o, hk => by
    unfold calmOk at h
    simp only [Bool.and_eq_true] at h
    obtain ⟨⟨⟨h1, h2⟩, h3⟩, h4⟩ := h
    cases k with
    | zero =>
      simp only [List.getElem?_cons_zero, Option.some.injEq] at hk
      subst hk
      refine ⟨fun j hj => ?_, ?_, h3⟩
      · have := List.all_eq_true.1 h1 j hj
        exact Nat.le_of_ble_eq_true this
      · split at h2
        · rename_i d hd; exact ⟨d, hd, h2⟩
        · cases h2
    | succ k =>
      have := calmOk_at h4 k o (by simpa using hk)
      rw [show i0 + 1 + k = i0 + (k + 1) by omega] at this
      exact this

/-! ### All orders -/
def left : List Bool → Nat
  | [] => 0
  | b :: r => (cond b 0 1) + left r
theorem left_set : ∀ {l : List Bool} {i : Nat}, l[i]? = some false → left (l.set i true) + 1 = left l
  | [], _, h => by simp at h
  | b :: r, 0, h => by
    simp only [List.getElem?_cons_zero, Option.some.injEq] at h
    subst h
    simp only [List.set_cons_zero, left, cond_true, cond_false]; omega
  | b :: r, i + 1, h => by
    have := left_set (l := r) (i := i) (by simpa using h)
    simp only [List.set_cons_succ, left]; omega
theorem left_zero : ∀ {l : List Bool}, left l = 0 → ∀ (i : Nat) (b : Bool), l[i]? = some b → b = true
  | [], _, i, b, h => by simp at h
  | c :: r, h0, i, b, h => by
    simp only [left] at h0
    cases i with
    | zero =>
      simp only [List.getElem?_cons_zero, Option.some.injEq] at h
      subst h
      cases c
      · simp at h0
      · rfl
    | succ i => exact left_zero (l := r) (by omega) i b (by simpa using h)

structure CalmS (l : List Oper) (s0 : St) (vs : Vals) (listed : Array Bool) (s : St) : Prop where
  n : s.n = s0.n
  hp : s.hp = s0.hp
  size : listed.size = l.length
  got : ∀ j d v, listed.getD j false = true → look j vs = some (d, v) → look d s.tm = some v
  old : ∀ t, (∀ j d v, listed.getD j false = true → look j vs = some (d, v) → d ≠ t) → look t s.tm = look t s0.tm
  closed : ∀ j o, listed.getD j false = true → l[j]? = some o → ∀ i ∈ bindsOf o.after.toList, listed.getD i false = true

theorem calm_any {P : Program} {T : Nat → Option TI} {tab : Tab} {lent : Bool} {l : List Oper} {s0 : St} {vs : Vals} {M0 : Mem} {Q : Exit → Act → World → Prop} (hT : ∀ t i, T t = some i → TF P t i) (hk : KeysOk vs) (hlen : vs.length = l.length)
    (hops : ∀ k o, l[k]? = some o → OpAt P T tab lent l s0 vs k o) (hok : calmOk l s0.n 0 l = true)
    (hq : ∀ M a, Ext big M0 M → Rel M ⟨s0.n, insAll vs s0.tm, s0.hp⟩ a → Q .normal a M.w) :
    ∀ (fuel : Nat) (listed : Array Bool) (s : St), left listed.toList ≤ fuel → CalmS l s0 vs listed s → ∀ M a, Ext big M0 M → Rel M s a → wpAny P .any l.toArray (QN Q) fuel listed a M.w := by
  -- at the end all is listed
  have done : ∀ (listed : Array Bool) (s : St), CalmS l s0 vs listed s → (∀ j, j < l.length → listed.getD j false = true) → ∀ M a, Ext big M0 M → Rel M s a → Q .normal a M.w := by
    intro listed s hcalm hall M a he hr
    refine hq M a he (hr.sub hcalm.n.symm hcalm.hp.symm fun t x hx => ?_)
    rcases insAll_at hk hx with ⟨j, hj⟩ | ⟨h1, h2⟩
    · have := hk.lt hj
      exact hcalm.got j t x (hall j (by omega)) hj
    · rw [hcalm.old t (fun j d v _ hj => h2 j d v hj)]
      exact h1
  have allReady : ∀ (listed : Array Bool) (s : St), CalmS l s0 vs listed s → Region.ready .any l.toArray listed = [] → ∀ j, j < l.length → listed.getD j false = true := by
    intro listed s hcalm hrd j
    induction j using Nat.strongRecOn with
    | ind j ih =>
      intro hj
      cases hb : listed.getD j false with
      | true => rfl
      | false =>
        exfalso
        have hjs : j < listed.size := by rw [hcalm.size]; exact hj
        have hmem : j ∈ Region.ready .any l.toArray listed := by
          rw [mem_ready]
          refine ⟨?_, l[j], by simp [hj], fun e he hbe => ?_⟩
          · rw [Array.getD_eq_getD_getElem?, Array.getElem?_eq_getElem hjs] at hb ⊢
            exact hb
          · have hin : e.on ∈ bindsOf l[j].after.toList := mem_bindsOf.2 ⟨e, by simpa using he, hbe, rfl⟩
            have := (calmOk_at hok j l[j] (List.getElem?_eq_getElem hj)).1 _ hin
            exact ih e.on (by omega) (by omega)
        rw [hrd] at hmem; cases hmem
  intro fuel
  induction fuel with
  | zero =>
    intro listed s hleft hcalm M a he hr
    have hall : ∀ j, j < l.length → listed.getD j false = true := by
      intro j hj
      have hjs : j < listed.size := by rw [hcalm.size]; exact hj
      rw [Array.getD_eq_getD_getElem?, Array.getElem?_eq_getElem hjs]
      exact left_zero (l := listed.toList) (by omega) j _ (by rw [Array.getElem?_toList, Array.getElem?_eq_getElem hjs]; rfl)
    refine ⟨?_, rfl, done listed s hcalm hall M a he hr⟩
    rw [List.eq_nil_iff_forall_not_mem]
    intro j hj
    obtain ⟨h1, o, ho, _⟩ := mem_ready.1 hj
    have hjl : j < l.length := by simpa using (Array.getElem?_eq_some_iff.1 ho).1
    have := hall j hjl
    have hjs : j < listed.size := by rw [hcalm.size]; exact hjl
    rw [Array.getD_eq_getD_getElem?, Array.getElem?_eq_getElem hjs] at this h1
    simp only [Option.getD_some] at this h1
    rw [this] at h1; cases h1
  | succ fuel ih =>
    intro listed s hleft hcalm M a he hr
    refine ⟨fun hrd => ⟨rfl, done listed s hcalm (allReady listed s hcalm hrd) M a he hr⟩, fun i hi => ?_⟩
    obtain ⟨h1, o, ho, hdeps⟩ := mem_ready.1 hi
    have hil : i < l.length := by simpa using (Array.getElem?_eq_some_iff.1 ho).1
    have hio : l[i]? = some o := by simpa using ho
    have his : i < listed.size := by rw [hcalm.size]; exact hil
    have hfalse : listed.getD i false = false := by
      rw [Array.getD_eq_getD_getElem?, Array.getElem?_eq_getElem his] at h1 ⊢
      exact h1
    have hdl : ∀ j ∈ bindsOf o.after.toList, listed.getD j false = true := by
      intro j hj
      obtain ⟨e, he1, he2, rfl⟩ := mem_bindsOf.1 hj
      exact hdeps e (by simpa using he1) he2
    obtain ⟨hlt, ⟨d0, hd0, hdn⟩, hpair⟩ := calmOk_at hok i o hio
    rw [Nat.zero_add] at hlt hpair
    obtain ⟨d, cs, v, vi, hd, hlook, hcs, hval, hvi, hvt⟩ := hops i o hio
    rw [hd] at hd0
    have hdd : d = d0 := Option.some.inj hd0
    subst hdd
    have hdrop : l.drop i = o :: l.drop (i + 1) := by
      rw [List.drop_eq_getElem_cons hil]
      congr 1
      rw [List.getElem?_eq_getElem hil] at hio
      exact Option.some.inj hio
    have hsub : ∀ t x, look t (pickSlots s0.tm vi (bindsOf o.after.toList) (usesOf l o)) = some x → look t s.tm = some x := by
      intro t x hx
      obtain ⟨hu, hx⟩ := pick_at hx
      rcases hx with hx | ⟨hx1, hx2⟩
      · obtain ⟨j, hj, hjv⟩ := depVal_some hx
        exact hcalm.got j t x (hdl j hj) (hvi _ _ hjv)
      · rw [hcalm.old t ?_]
        · exact hx2
        · rintro j d' v' hjl hjv rfl
          have hjlen : j < l.length := by rw [← hlen]; exact hk.lt hjv
          have hji : i ≠ j := by rintro rfl; rw [hfalse] at hjl; cases hjl
          obtain ⟨d'', hd'', hor, _⟩ := pairOk_at hpair j l[j] (List.getElem?_eq_getElem hjlen) (by omega)
          rw [Nat.zero_add] at hor
          obtain ⟨dj, _, vj, _, hdj, hlj, _⟩ := hops j l[j] (List.getElem?_eq_getElem hjlen)
          rw [hdj] at hd''
          cases hd''
          rw [hjv] at hlj
          cases hlj
          rcases hor hu with hor | hor
          · obtain ⟨x', hx'⟩ := hvt j (hlt j hor)
            have := hvi _ _ hx'
            rw [hjv] at this
            cases this
            exact depVal_none hx1 j hor _ _ hx' rfl
          · have := hcalm.closed j l[j] hjl (List.getElem?_eq_getElem hjlen) i hor
            rw [hfalse] at this; cases this
    refine calmVal_sound (S := ⟨s0.n, pickSlots s0.tm vi (bindsOf o.after.toList) (usesOf l o), s0.hp⟩) (s := s) hT hdrop hd (by rw [hcalm.n]; exact hdn) hval hcs hcalm.n.symm hcalm.hp.symm hsub hr fun M' a' he' hr' => ?_
    have hset : ∀ j, (listed.setIfInBounds i true).getD j false = (if j = i then true else listed.getD j false) := by
      intro j
      by_cases hji : j = i
      · subst hji
        rw [if_pos rfl, Array.getD_eq_getD_getElem?, Array.getElem?_setIfInBounds_self_of_lt his]; rfl
      · rw [if_neg hji, Array.getD_eq_getD_getElem?, Array.getElem?_setIfInBounds_ne (Ne.symm hji), ← Array.getD_eq_getD_getElem?]
    refine ih (listed.setIfInBounds i true) ⟨s.n, ins d v s.tm, s.hp⟩ ?_ ⟨hcalm.n, hcalm.hp, by simp [hcalm.size], ?_, ?_, ?_⟩ M' a' (he.trans he') hr'
    · have hlf : listed.toList[i]? = some false := by
        rw [Array.getElem?_toList, Array.getElem?_eq_getElem his]
        rw [Array.getD_eq_getD_getElem?, Array.getElem?_eq_getElem his] at hfalse
        exact congrArg some hfalse
      have := left_set hlf
      rw [Array.toList_setIfInBounds]
      omega
    · intro j dj vj hjl hjv
      rw [hset] at hjl
      show look dj (ins d v s.tm) = some vj
      rw [look_ins]
      by_cases hji : j = i
      · subst hji
        rw [hlook] at hjv
        cases hjv
        rw [if_pos rfl]
      · rw [if_neg hji] at hjl
        have hjlen : j < l.length := by rw [← hlen]; exact hk.lt hjv
        obtain ⟨d'', hd'', _, hne⟩ := pairOk_at hpair j l[j] (List.getElem?_eq_getElem hjlen) (by omega)
        obtain ⟨dj', _, vj', _, hdj, hlj, _⟩ := hops j l[j] (List.getElem?_eq_getElem hjlen)
        rw [hdj] at hd''
        cases hd''
        rw [hjv] at hlj
        cases hlj
        rw [if_neg (hne d hd)]
        exact hcalm.got j dj vj hjl hjv
    · intro t ht
      show look t (ins d v s.tm) = _
      have htd : d ≠ t := ht i d v (by rw [hset, if_pos rfl]) hlook
      rw [look_ins, if_neg (Ne.symm htd)]
      refine hcalm.old t fun j dj vj hjl hjv => ht j dj vj ?_ hjv
      rw [hset]
      split
      · rfl
      · exact hjl
    · intro j q hjl hjq i' hi'
      rw [hset] at hjl ⊢
      split
      · rfl
      · by_cases hji : j = i
        · subst hji
          rw [hio] at hjq
          cases hjq
          exact hdl i' hi'
        · rw [if_neg hji] at hjl
          exact hcalm.closed j q hjl hjq i' hi'

/-- A region that draws its order, of reads and of calls that leave nothing. -/
theorem awp_calm {P : Program} {T : Nat → Option TI} {K : Post} {s : St} {id : Nat} {l : List Oper} (tab : Tab) (lent : Bool) (ks hs : List Nat) (cds : List (Nat × List Prop)) (s' : St) (hm : P.follows .mixedOrders = true) (hT : ∀ t i, T t = some i → TF P t i)
    (hok : calmOk l s.n 0 l = true) (h : calmCut P T tab lent l ks hs s = some (cds, s')) (hc : AllC cds) (hk : K .normal s') : AWp P (.region id l.toArray true) K s := ⟨fun M0 M a he hr => by
  unfold calmCut at h
  split at h
  · rename_i cds1 vs hrun
    simp only [Option.some.injEq, Prod.mk.injEq] at h
    obtain ⟨rfl, rfl⟩ := h
    obtain ⟨h1, h2, _, h4⟩ := calmRun_at l [] trivial hrun hc
    have hall := calm_any (M0 := M0) (Q := Qc K M0) hT h1 (by simpa using h2) (fun k o hko => by have := h4 k o hko; rwa [List.length_nil, Nat.zero_add] at this) hok
      (fun M a he hr => by
        obtain ⟨M', h3, h4, h5⟩ := awk_cut ks hs _ M a hr
        exact ⟨_, M', hk, h3, h4, he.trans h5⟩)
      l.length (Array.replicate l.length false) s (by
        have : ∀ n, left (List.replicate n false) = n := by
          intro n
          induction n with
          | zero => rfl
          | succ n ih => simp only [List.replicate_succ, left, cond_false, ih]; omega
        rw [Array.toList_replicate, this]
        exact Nat.le_refl _)
      ⟨rfl, rfl, by simp, fun j d v hj => by simp [Array.getD_eq_getD_getElem?, Array.getElem?_replicate] at hj; split at hj <;> simp at hj, fun t _ => rfl, fun j o hj => by simp [Array.getD_eq_getD_getElem?, Array.getElem?_replicate] at hj; split at hj <;> simp at hj⟩
      M.drawn a (he.trans ((drawn_ext M).mono fun x hx => by cases hx)) (drawn_rel hr)
    refine wp_mono (wp_region_any (Q := QN (Qc K M0)) hm (by simp only [List.size_toArray]; exact hall)) fun e a w hq => ?_
    obtain ⟨rfl, hq⟩ := hq
    exact hq
  · cases h⟩
end Go.Ab
