/- The abstract machine: parts 17 to 31. -/
import Derived.Test.YtcmaffldmodacaaAbB
import Derived.Lib.SliceRun
import Derived.WalkSpells
import Derived.MapKept
namespace Go.Ab
open Go
def noneIn : V1 → Prop
  | .ro c => c.len = 0
  | .rs c => c.len = 0
  | .rw _ _ n => n = 0
  | _ => True
def isSl : V1 → Bool
  | .ro _ => true
  | .rs _ => true
  | .nils => true
  | .rw _ _ _ => true
  | _ => false
theorem slice_form {M : Mem} {v : V1} {u : Value} (hs : isSl v = true) (h : VR M v u) : ∃ A n c, u = .slice A n c ∧ (A = none → noneIn v) ∧ (v = .nils → A = none) := by
  cases v with
  | ro c =>
    obtain ⟨A, cap, rfl, _, _, h⟩ := h
    refine ⟨A, _, cap, rfl, fun hA => ?_, fun q => (by cases q)⟩
    rcases h with h | ⟨b, off, hA', _⟩
    · exact h
    · rw [hA] at hA'; cases hA'
  | rs c =>
    obtain ⟨A, cap, rfl, _, _, h⟩ := h
    refine ⟨A, _, cap, rfl, fun hA => ?_, fun q => (by cases q)⟩
    rcases h with h | ⟨b, off, hA', _⟩
    · exact h
    · rw [hA] at hA'; cases hA'
  | nils =>
    exact ⟨none, 0, 0, h, fun _ => trivial, fun _ => rfl⟩
  | rw id off n =>
    obtain ⟨o, _, _, h⟩ := h
    rcases h with ⟨h, A, rfl⟩ | ⟨b, p, a, cap, _, rfl, _⟩
    · exact ⟨A, 0, 0, rfl, fun _ => h, fun q => (by cases q)⟩
    · exact ⟨_, n, cap, rfl, fun hA => (by cases hA), fun q => (by cases q)⟩
  | _ => cases hs
theorem aops_isnil2 {P : Program} {T : Nat → Option TI} {K : Post} {s : St} {l : List Oper} {k : Nat} {o : Oper} {r : List Oper} (neg : Bool) {t yt : TypeId} {i : TI} {x d : Nat} {v : V1} (hT : ∀ t i, T t = some i → TF P t i) (hl : l.drop k = o :: r)
    (ho : o.op = .binOp (cond neg .neq .eql) t (.tmp x) (.const (.slice none 0 0)) yt) (hg : o.guard = none) (hd : o.dst = some d) (hdn : Nat.ble (d + 1) s.n = true)
    (hi : T t = some i) (hik : i.kind = .slice) (hx : s.raw (.tmp x) = some (.one v)) (hs : isSl v = true)
    (hk : ∀ b : Bool, (b = true → noneIn v) → (v = .nils → b = true) → AOps P l (k + 1) K ⟨s.n, ins d (.one (.bool (cond neg (!b) b))) s.tm, s.hp⟩) : AOps P l k K s := ⟨fun M0 M a he hr => by
  have hdr : l.drop (k + 1) = r := by
    have h1 : (l.drop k).drop 1 = r := by rw [hl]; rfl
    rwa [List.drop_drop] at h1
  rw [hl]
  unfold wpList
  have hu := kind_slice (hT _ _ hi) hik
  have hv := raw_sound hr hx
  obtain ⟨A, n, c, hA, hnone, hyes⟩ := slice_form hs hv
  have hrun : (execOp a.eval o).run P M.w = .ok (.value (.bool (cond neg (!A.isNone) A.isNone))) M.w := by
    have hc : a.eval (.const (.slice none 0 0)) = .slice none 0 0 := rfl
    cases neg with
    | false =>
      have h2 := Lib.run_eql_slice_nil (P := P) M.w t i.elem A n c 0 0 hu
      simp only [cond_false] at ho ⊢
      simp only [execOp, ho, hA, hc, eqGuard, Sem.run_bind]
      simp only [h2, Bool.not_true, Bool.false_eq_true, if_false, Sem.run_pure, Result.andThen_ok]
    | true =>
      have h2 := run_neq_slice_nil_any (P := P) M.w t i.elem A n c 0 0 hu
      simp only [cond_true] at ho ⊢
      simp only [execOp, ho, hA, hc, eqGuard, Sem.run_bind]
      simp only [h2, Bool.not_true, Bool.false_eq_true, if_false, Sem.run_pure, Result.andThen_ok]
  rw [if_pos (by simp [Region.wanted, hg])]
  refine .inl ?_
  have hput : putD (some d) (.one (.bool (cond neg (!A.isNone) A.isNone))) s.n s.tm = some (ins d (.one (.bool (cond neg (!A.isNone) A.isNone))) s.tm) := by
    simp only [putD, hdn, cond_true]
  have hvr : AVR M (.one (.bool (cond neg (!A.isNone) A.isNone))) (.bool (cond neg (!A.isNone) A.isNone)) := rfl
  have hput2 : putD o.dst (.one (.bool (cond neg (!A.isNone) A.isNone))) s.n s.tm = some (ins d (.one (.bool (cond neg (!A.isNone) A.isNone))) s.tm) := by rw [hd]; exact hput
  have hgo := (hk A.isNone (fun hb => hnone (by simpa using hb)) (fun q => by rw [hyes q]; rfl)).run M0 M _ he (hr.put hput2 hvr)
  rw [hdr] at hgo
  unfold Oper.wp
  rw [hrun]
  exact hgo⟩
theorem aops_isnil {P : Program} {T : Nat → Option TI} {K : Post} {s : St} {l : List Oper} {k : Nat} {o : Oper} {r : List Oper} (neg : Bool) {t yt : TypeId} {i : TI} {x d : Nat} {v : V1} (hT : ∀ t i, T t = some i → TF P t i) (hl : l.drop k = o :: r)
    (ho : o.op = .binOp (cond neg .neq .eql) t (.tmp x) (.const (.slice none 0 0)) yt) (hg : o.guard = none) (hd : o.dst = some d) (hdn : Nat.ble (d + 1) s.n = true)
    (hi : T t = some i) (hik : i.kind = .slice) (hx : s.raw (.tmp x) = some (.one v)) (hs : isSl v = true)
    (hk : ∀ b : Bool, (b = true → noneIn v) → AOps P l (k + 1) K ⟨s.n, ins d (.one (.bool (cond neg (!b) b))) s.tm, s.hp⟩) : AOps P l k K s := aops_isnil2 neg hT hl ho hg hd hdn hi hik hx hs fun b h _ => hk b h
theorem awk_boxcell (id k : Nat) (n sz : Nat) (vs : List V1) (v v' : V1) (s : St) (h : look id s.hp = some (.box n sz vs)) (hv : vs[k]? = some v) (hw : WkV s.hp v v') : AWk s ⟨s.n, s.tm, ins id (.box n sz (vs.set k v')) s.hp⟩ :=
  awk_obj id _ _ s h rfl rfl (fun i j _ _ => by
    simp only [Obj.cell]
    by_cases hk : i * sz + j = k
    · subst hk
      rw [List.getD_eq_getElem?_getD, hv, List.getD_eq_getElem?_getD, List.getElem?_set_self (List.getElem?_eq_some_iff.1 hv).1]
      exact hw
    · rw [List.getD_eq_getElem?_getD, List.getD_eq_getElem?_getD, List.getElem?_set_ne (Ne.symm hk)]
      exact WkV.refl _ _)
inductive WkL (H : Heap) : List V1 → List V1 → Prop where
  | nil : WkL H [] []
  | same (v : V1) {r r' : List V1} (h : WkL H r r') : WkL H (v :: r) (v :: r')
  | no0 (c : C0) (hc : c.len = 0) {r r' : List V1} (h : WkL H r r') : WkL H (.nils :: r) (.ro c :: r')
  | no1 (c : C1) (hc : c.len = 0) {r r' : List V1} (h : WkL H r r') : WkL H (.nils :: r) (.rs c :: r')
inductive WkArgs (H : Heap) : List AV → List AV → Prop where
  | nil : WkArgs H [] []
  | cons {v v' : AV} (hv : WkA H v v') {r r' : List AV} (h : WkArgs H r r') : WkArgs H (v :: r) (v' :: r')
end Go.Ab
namespace Go.Ab
open Go
section
variable {P : Program} {T : Nat → Option TI}
end
end Go.Ab
namespace Go.Ab
open Go
def bindsOf : List Edge → List Nat
  | [] => []
  | e :: r => cond (Region.binds .any e) (e.on :: bindsOf r) (bindsOf r)
theorem mem_bindsOf {j : Nat} : ∀ {l : List Edge}, j ∈ bindsOf l ↔ ∃ e ∈ l, Region.binds .any e = true ∧ e.on = j
  | [] => by simp [bindsOf]
  | e :: r => by
    unfold bindsOf
    cases hb : Region.binds .any e
    · simp only [cond_false, mem_bindsOf (l := r), List.mem_cons, exists_eq_or_imp, hb, Bool.false_eq_true, false_and, false_or]
    · simp only [cond_true, List.mem_cons, mem_bindsOf (l := r), exists_eq_or_imp, hb, true_and]
      constructor
      · rintro (h | h)
        · exact .inl h.symm
        · exact .inr h
      · rintro (h | h)
        · exact .inl h.symm
        · exact .inr h
def usesOf (l : List Oper) (o : Oper) : List Nat :=
  (match o.guard with | some (j, _) => (match (l.toArray[j]?).bind (·.dst) with | some t => [t] | none => []) | none => []) ++ tmpsOf o.op.operands.toList
abbrev Vals := List (Nat × (Nat × AV))
def depVal (vals : Vals) : List Nat → Nat → Option AV
  | [], _ => none
  | j :: r, t => (match look j vals with | some (d, v) => cond (Nat.beq d t) (some v) (depVal vals r t) | none => depVal vals r t)
def pickSlots (tm : List (Nat × AV)) (vals : Vals) (deps : List Nat) : List Nat → List (Nat × AV)
  | [] => []
  | t :: r => (match depVal vals deps t with
    | some v => ins t v (pickSlots tm vals deps r)
    | none => (match look t tm with | some v => ins t v (pickSlots tm vals deps r) | none => pickSlots tm vals deps r))
def wrapG (gd : Option (Nat × Bool)) (g : Bool) (v : AV) : AV := match gd with | none => v | some _ => .whn g v
def wrapC (gd : Option (Nat × Bool)) (g : Bool) (cs : List Prop) : List Prop := match gd with | none => cs | some _ => whnAll g cs
theorem wrapC_true {gd : Option (Nat × Bool)} {cs : List Prop} (h : AllP (wrapC gd true cs)) : AllP cs := by
  cases gd with
  | none => exact h
  | some q => exact whnAll_true rfl h
def insAll : Vals → List (Nat × AV) → List (Nat × AV)
  | [], tm => tm
  | (_, (d, v)) :: r, tm => ins d v (insAll r tm)
def pairOk (l : List Oper) (i : Nat) (o : Oper) : Nat → List Oper → Bool
  | _, [] => true
  | j, q :: r => (Nat.beq i j ||
      (match q.dst with
      | some d => (!(hasN d (usesOf l o)) || hasN j (bindsOf o.after.toList) || hasN i (bindsOf q.after.toList)) && (match o.dst with | some e => !(Nat.beq d e) | none => false)
      | none => false)) && pairOk l i o (j + 1) r
section
variable {P : Program} {T : Nat → Option TI} {S s : St}
theorem Rel.sub {M : Mem} {a : Act} (hr : Rel M s a) (hn : S.n = s.n) (hp : S.hp = s.hp) (h : ∀ t x, look t S.tm = some x → look t s.tm = some x) : Rel M S a :=
  ⟨by rw [hp]; exact hr.hp, hr.ok, hr.defers, by rw [hn]; exact hr.size, fun d v hd => hr.tm d v (h d v hd)⟩
theorem raw_mono (h : ∀ t x, look t S.tm = some x → look t s.tm = some x) {x : Operand} {v : AV} (hx : S.raw x = some v) : s.raw x = some v := by
  cases x with
  | tmp t => exact h t v hx
  | const c => exact hx
  | func f => exact hx
  | global g => exact hx
theorem ev_mono (h : ∀ t x, look t S.tm = some x → look t s.tm = some x) {g : Bool} {ts : List Nat} {x : Operand} {v : AV} (hx : S.ev g ts x = some v) : s.ev g ts x = some v := by
  unfold St.ev at hx ⊢
  cases hS : S.raw x with
  | none => rw [hS] at hx; cases hx
  | some w => rw [hS] at hx; rw [raw_mono h hS]; exact hx
theorem ev_there {g : Bool} {ts : List Nat} {t : Nat} {v : AV} (hx : S.ev g ts (.tmp t) = some v) : ∃ w, look t S.tm = some w := by
  unfold St.ev at hx
  cases hS : S.raw (.tmp t) with
  | none => rw [hS] at hx; cases hx
  | some w => exact ⟨w, hS⟩
theorem rawL_mono {e1 e2 : Operand → Option AV} (h : ∀ x v, e1 x = some v → e2 x = some v) : ∀ {xs : List Operand} {vs : List AV}, rawL e1 xs = some vs → rawL e2 xs = some vs
  | [], _, hx => hx
  | x :: r, vs, hx => by
    unfold rawL at hx ⊢
    split at hx
    · rename_i v vs' h1 h2
      rw [h _ _ h1, rawL_mono h h2]
      exact hx
    · cases hx
theorem rawL_there {e : Operand → Option AV} : ∀ {xs : List Operand} {vs : List AV}, rawL e xs = some vs → ∀ x ∈ xs, ∃ v, e x = some v
  | [], _, _, x, hx => by cases hx
  | y :: r, vs, h, x, hx => by
    unfold rawL at h
    split at h
    · rename_i v vs' h1 h2
      rcases List.mem_cons.1 hx with rfl | hx
      · exact ⟨v, h1⟩
      · exact rawL_there h2 x hx
    · cases h
theorem mem_tmpsOf {t : Nat} : ∀ {xs : List Operand}, t ∈ tmpsOf xs → .tmp t ∈ xs
  | [], h => by cases h
  | x :: r, h => by
    cases x with
    | tmp u =>
      rcases List.mem_cons.1 h with rfl | h
      · exact List.mem_cons_self
      · exact List.mem_cons_of_mem _ (mem_tmpsOf h)
    | const c => exact List.mem_cons_of_mem _ (mem_tmpsOf h)
    | func c => exact List.mem_cons_of_mem _ (mem_tmpsOf h)
    | global c => exact List.mem_cons_of_mem _ (mem_tmpsOf h)
theorem owed_eq (h : ∀ t x, look t S.tm = some x → look t s.tm = some x) (g : Bool) : ∀ (ts : List Nat), (∀ t ∈ ts, ∃ w, look t S.tm = some w) → S.owed g ts = s.owed g ts
  | [], _ => rfl
  | t :: r, ht => by
    obtain ⟨w, hw⟩ := ht t List.mem_cons_self
    unfold St.owed
    rw [hw, h _ _ hw, owed_eq h g r (fun t' h' => ht t' (List.mem_cons_of_mem _ h'))]
theorem guardOf_mono (h : ∀ t x, look t S.tm = some x → look t s.tm = some x) {ops : Array Oper} {gd : Option (Nat × Bool)} {g : Bool} (hg : guardOf ops S gd = some g) : guardOf ops s gd = some g := by
  unfold guardOf at hg ⊢
  split at hg
  · exact hg
  · split at hg
    · split at hg
      · rename_i v hv
        rw [h _ _ hv]
        exact hg
      · cases hg
    · cases hg
theorem preCall_mono (h : ∀ t x, look t S.tm = some x → look t s.tm = some x) (hp : S.hp = s.hp) {lent : Bool} {l : List Oper} {k : Nat} {p : Pre} (hpre : preCall [] lent l k S = some p) : preCall [] lent l k s = some p := by
  unfold preCall at hpre ⊢
  split at hpre
  · split at hpre
    · rename_i g c hg hop
      rw [guardOf_mono h hg, hop]
      simp only
      split at hpre
      · rename_i x hx
        split at hpre
        · rename_i f caps avs hh e1 e2 e3
          rw [ev_mono h e1, rawL_mono (fun _ _ => ev_mono h) e2, ← hp, e3]
          simp only
          rw [← hpre]
          have : S.owed g (tmpsOf (x :: c.args.toList)) = s.owed g (tmpsOf (x :: c.args.toList)) := owed_eq h g _ fun t ht => by
            rcases List.mem_cons.1 (mem_tmpsOf ht) with hxt | hxt
            · subst hxt; exact ev_there e1
            · obtain ⟨v, hv⟩ := rawL_there e2 _ hxt
              exact ev_there hv
          rw [this]
        · cases hpre
      · cases hpre
    · cases hpre
  · cases hpre
end
theorem pick_at {tm : List (Nat × AV)} {vals : Vals} {deps : List Nat} {t : Nat} {v : AV} : ∀ {us : List Nat}, look t (pickSlots tm vals deps us) = some v → t ∈ us ∧ (depVal vals deps t = some v ∨ (depVal vals deps t = none ∧ look t tm = some v))
  | [], h => by cases h
  | u :: r, h => by
    unfold pickSlots at h
    split at h
    · rename_i w hw
      rw [look_ins] at h
      by_cases htu : t = u
      · rw [if_pos htu] at h
        cases h
        subst htu
        exact ⟨List.mem_cons_self, .inl hw⟩
      · rw [if_neg htu] at h
        obtain ⟨h1, h2⟩ := pick_at h
        exact ⟨List.mem_cons_of_mem _ h1, h2⟩
    · rename_i hw
      split at h
      · rename_i w hw2
        rw [look_ins] at h
        by_cases htu : t = u
        · rw [if_pos htu] at h
          cases h
          subst htu
          exact ⟨List.mem_cons_self, .inr ⟨hw, hw2⟩⟩
        · rw [if_neg htu] at h
          obtain ⟨h1, h2⟩ := pick_at h
          exact ⟨List.mem_cons_of_mem _ h1, h2⟩
      · obtain ⟨h1, h2⟩ := pick_at h
        exact ⟨List.mem_cons_of_mem _ h1, h2⟩
theorem depVal_some {vals : Vals} {t : Nat} {v : AV} : ∀ {deps : List Nat}, depVal vals deps t = some v → ∃ j ∈ deps, look j vals = some (t, v)
  | [], h => by cases h
  | j :: r, h => by
    unfold depVal at h
    split at h
    · rename_i d w hj
      cases hb : Nat.beq d t
      · rw [hb] at h
        obtain ⟨k, hk, hv⟩ := depVal_some h
        exact ⟨k, List.mem_cons_of_mem _ hk, hv⟩
      · rw [hb] at h
        simp only [cond_true, Option.some.injEq] at h
        subst h
        have := Nat.eq_of_beq_eq_true hb
        subst this
        exact ⟨j, List.mem_cons_self, hj⟩
    · obtain ⟨k, hk, hv⟩ := depVal_some h
      exact ⟨k, List.mem_cons_of_mem _ hk, hv⟩
theorem depVal_none {vals : Vals} {t : Nat} : ∀ {deps : List Nat}, depVal vals deps t = none → ∀ j ∈ deps, ∀ d v, look j vals = some (d, v) → d ≠ t
  | [], _, j, hj => by cases hj
  | k :: r, h, j, hj => by
    unfold depVal at h
    intro d v hjv
    split at h
    · rename_i d' w hk
      cases hb : Nat.beq d' t
      · rw [hb] at h
        rcases List.mem_cons.1 hj with rfl | hj
        · rw [hk] at hjv
          cases hjv
          rintro rfl
          rw [beq_self] at hb; cases hb
        · exact depVal_none h j hj d v hjv
      · rw [hb] at h; cases h
    · rename_i hk
      rcases List.mem_cons.1 hj with rfl | hj
      · rw [hk] at hjv; cases hjv
      · exact depVal_none h j hj d v hjv
def KeysOk : Vals → Prop
  | [] => True
  | (k, _) :: r => k = r.length ∧ KeysOk r
theorem KeysOk.lt : ∀ {vs : Vals}, KeysOk vs → ∀ {j : Nat} {x : Nat × AV}, look j vs = some x → j < vs.length
  | [], _, _, _, h => by cases h
  | (k, y) :: r, hk, j, x, h => by
    unfold look at h
    cases hb : Nat.beq k j
    · rw [hb] at h
      have := KeysOk.lt hk.2 h
      simp only [List.length_cons]; omega
    · have := Nat.eq_of_beq_eq_true hb
      have := hk.1
      simp only [List.length_cons]; omega
theorem KeysOk.up {vs : Vals} (hk : KeysOk vs) {y : Nat × AV} {j : Nat} {x : Nat × AV} (h : look j vs = some x) : look j ((vs.length, y) :: vs) = some x := by
  unfold look
  have := hk.lt h
  rw [beq_ne (show vs.length ≠ j by omega)]
  exact h
theorem insAll_at {tm : List (Nat × AV)} {t : Nat} {v : AV} : ∀ {vs : Vals}, KeysOk vs → look t (insAll vs tm) = some v → (∃ j, look j vs = some (t, v)) ∨ (look t tm = some v ∧ ∀ j d w, look j vs = some (d, w) → d ≠ t)
  | [], _, h => .inr ⟨h, fun j d w hj => by cases hj⟩
  | (k, (d, w)) :: r, hk, h => by
    unfold insAll at h
    rw [look_ins] at h
    obtain ⟨hk1, hk2⟩ := hk
    subst hk1
    by_cases htd : t = d
    · rw [if_pos htd] at h
      cases h
      subst htd
      refine .inl ⟨r.length, ?_⟩
      unfold look; rw [beq_self]; rfl
    · rw [if_neg htd] at h
      rcases insAll_at hk2 h with ⟨j, hj⟩ | ⟨h1, h2⟩
      · exact .inl ⟨j, hk2.up hj⟩
      · refine .inr ⟨h1, fun j d' w' hj => ?_⟩
        unfold look at hj
        cases hb : Nat.beq r.length j
        · rw [hb] at hj; exact h2 j d' w' hj
        · rw [hb] at hj
          simp only [cond_true, Option.some.injEq, Prod.mk.injEq] at hj
          obtain ⟨rfl, _⟩ := hj
          exact fun h => htd h.symm
theorem hasN_mem {t : Nat} : ∀ {l : List Nat}, hasN t l = true ↔ t ∈ l
  | [] => by simp [hasN]
  | u :: r => by
    unfold hasN
    cases hb : Nat.beq u t
    · have hne : u ≠ t := by rintro rfl; rw [beq_self] at hb; cases hb
      simp only [cond_false, hasN_mem (l := r), List.mem_cons]
      exact ⟨fun h => .inr h, fun h => h.resolve_left (fun e => hne e.symm)⟩
    · have := Nat.eq_of_beq_eq_true hb
      subst this
      simp
theorem pairOk_at {l : List Oper} {i : Nat} {o : Oper} : ∀ {rest : List Oper} {j0 : Nat}, pairOk l i o j0 rest = true → ∀ k q, rest[k]? = some q → i ≠ j0 + k → ∃ d, q.dst = some d ∧ (d ∈ usesOf l o → (j0 + k) ∈ bindsOf o.after.toList ∨ i ∈ bindsOf q.after.toList) ∧ ∀ e, o.dst = some e → d ≠ e
  | [], _, _, k, q, hk, _ => by simp at hk
  | p :: r, j0, h, k, q, hk, hne => by
    unfold pairOk at h
    simp only [Bool.and_eq_true] at h
    obtain ⟨h1, h2⟩ := h
    cases k with
    | zero =>
      simp only [List.getElem?_cons_zero, Option.some.injEq] at hk
      subst hk
      rw [beq_ne (by simpa using hne), Bool.false_or] at h1
      split at h1
      · rename_i d hd
        simp only [Bool.and_eq_true, Bool.or_eq_true, Bool.not_eq_true'] at h1
        obtain ⟨h3, h4⟩ := h1
        refine ⟨d, hd, fun hu => ?_, fun e he => ?_⟩
        · rcases h3 with (h3 | h3) | h3
          · rw [hasN_mem.2 hu] at h3; cases h3
          · exact .inl (hasN_mem.1 h3)
          · exact .inr (hasN_mem.1 h3)
        · rw [he] at h4
          simp only [Bool.not_eq_true'] at h4
          rintro rfl
          rw [beq_self] at h4; cases h4
      · cases h1
    | succ k =>
      have := pairOk_at h2 k q (by simpa using hk) (by omega)
      rw [show j0 + 1 + k = j0 + (k + 1) by omega] at this
      exact this
def left : List Bool → Nat
  | [] => 0
  | b :: r => (cond b 0 1) + left r
theorem left_set : ∀ {l : List Bool} {i : Nat}, l[i]? = some false → left (l.set i true) + 1 = left l
  | [], _, h => by simp at h
  | b :: r, 0, h => by
    simp only [List.getElem?_cons_zero, Option.some.injEq] at h
    subst h
    simp only [List.set_cons_zero, left, cond_true, cond_false]; omega
  | b :: r, i + 1, h => by
    have := left_set (l := r) (i := i) (by simpa using h)
    simp only [List.set_cons_succ, left]; omega
theorem left_zero : ∀ {l : List Bool}, left l = 0 → ∀ (i : Nat) (b : Bool), l[i]? = some b → b = true
  | [], _, i, b, h => by simp at h
  | c :: r, h0, i, b, h => by
    simp only [left] at h0
    cases i with
    | zero =>
      simp only [List.getElem?_cons_zero, Option.some.injEq] at h
      subst h
      cases c
      · simp at h0
      · rfl
    | succ i => exact left_zero (l := r) (by omega) i b (by simpa using h)
structure CalmS (l : List Oper) (s0 : St) (vs : Vals) (listed : Array Bool) (s : St) : Prop where
  n : s.n = s0.n
  hp : s.hp = s0.hp
  size : listed.size = l.length
  got : ∀ j d v, listed.getD j false = true → look j vs = some (d, v) → look d s.tm = some v
  old : ∀ t, (∀ j d v, listed.getD j false = true → look j vs = some (d, v) → d ≠ t) → look t s.tm = look t s0.tm
  closed : ∀ j o, listed.getD j false = true → l[j]? = some o → ∀ i ∈ bindsOf o.after.toList, listed.getD i false = true
end Go.Ab
namespace Go.Ab
open Go
def refsV (X : Nat → Bool) : V1 → Bool
  | .rw id _ _ => !(X id)
  | .ptr id _ _ => !(X id)
  | .mrow id _ _ => !(X id)
  | .mptr id _ _ => !(X id)
  | .fn _ caps => caps.all fun c => match c with | .rw id _ _ => !(X id) | .ptr id _ _ => !(X id) | .mrow id _ _ => !(X id) | .mptr id _ _ => !(X id) | _ => true
  | _ => true
def refsA (X : Nat → Bool) : AV → Bool
  | .one v => refsV X v
  | .agg vs => vs.all (refsV X)
  | .tup es => es.all fun e => e.2.all (refsV X)
  | .whn _ v => refsA X v
def refsO (X : Nat → Bool) : Obj → Bool
  | .box _ _ vs => vs.all (refsV X)
  | .mat id _ => !(X id)
  | .tail pre _ => pre.all (refsV X)
  | _ => true
theorem refs1_clr {X Y : Nat → Bool} (hY : ∀ z, Y z = true → X z = true) {c : V1} (h : (match c with | .rw id _ _ => !(X id) | .ptr id _ _ => !(X id) | .mrow id _ _ => !(X id) | .mptr id _ _ => !(X id) | _ => true) = true) : clr1 Y c = c := by
  cases c <;> first | rfl | skip
  case rw id a b =>
    simp only [Bool.not_eq_true'] at h
    have : Y id = false := by cases hy : Y id; rfl; rw [hY id hy] at h; cases h
    simp [clr1, this]
  case ptr id a b =>
    simp only [Bool.not_eq_true'] at h
    have : Y id = false := by cases hy : Y id; rfl; rw [hY id hy] at h; cases h
    simp [clr1, this]
  case mrow id a b =>
    simp only [Bool.not_eq_true'] at h
    have : Y id = false := by cases hy : Y id; rfl; rw [hY id hy] at h; cases h
    simp [clr1, this]
  case mptr id a b =>
    simp only [Bool.not_eq_true'] at h
    have : Y id = false := by cases hy : Y id; rfl; rw [hY id hy] at h; cases h
    simp [clr1, this]
theorem refsV_clr {X Y : Nat → Bool} (hY : ∀ z, Y z = true → X z = true) {v : V1} (h : refsV X v = true) : clrV Y v = v := by
  cases v <;> first | rfl | skip
  case rw id a b => exact refs1_clr (c := .rw id a b) hY h
  case ptr id a b => exact refs1_clr (c := .ptr id a b) hY h
  case mrow id a b => exact refs1_clr (c := .mrow id a b) hY h
  case mptr id a b => exact refs1_clr (c := .mptr id a b) hY h
  case fn f caps =>
    simp only [clrV]
    congr 1
    have h' := List.all_eq_true.1 h
    exact (List.map_congr_left fun c hc => refs1_clr hY (h' c hc)).trans (List.map_id _)
theorem refsVs_clr {X Y : Nat → Bool} (hY : ∀ z, Y z = true → X z = true) {vs : List V1} (h : vs.all (refsV X) = true) : vs.map (clrV Y) = vs := by
  have h' := List.all_eq_true.1 h
  exact (List.map_congr_left fun c hc => refsV_clr hY (h' c hc)).trans (List.map_id _)
theorem refsA_clr {X Y : Nat → Bool} (hY : ∀ z, Y z = true → X z = true) : ∀ {v : AV}, refsA X v = true → clrA Y v = v
  | .one v, h => by simp only [clrA]; rw [refsV_clr hY h]
  | .agg vs, h => by simp only [clrA]; rw [refsVs_clr hY h]
  | .tup es, h => by
    simp only [clrA]
    congr 1
    have h' := List.all_eq_true.1 h
    refine (List.map_congr_left fun e he => ?_).trans (List.map_id _)
    rw [refsVs_clr hY (h' e he)]; rfl
  | .whn g v, h => by simp only [clrA]; rw [refsA_clr hY (v := v) h]
theorem refsO_clr {X Y : Nat → Bool} (hY : ∀ z, Y z = true → X z = true) {o : Obj} (h : refsO X o = true) : clrO Y o = o := by
  cases o with
  | box n sz vs => simp only [clrO]; rw [refsVs_clr hY h]
  | tail pre xs => simp only [clrO]; rw [refsVs_clr hY h]
  | flat c => rfl
  | recs c => rfl
  | mat id xss =>
    have h' : (!(X id)) = true := h
    simp only [Bool.not_eq_true'] at h'
    have : Y id = false := by cases hy : Y id; rfl; rw [hY id hy] at h'; cases h'
    simp [clrO, this]
theorem Rel.alike {M : Mem} {s s2 : St} {a : Act} (hr : Rel M s a) (hn : s2.n = s.n) (hp : ∀ z, look z s2.hp = look z s.hp) (h : ∀ t x, look t s2.tm = some x → look t s.tm = some x) :
    ∃ M', Rel M' s2 a ∧ M'.w = M.w ∧ Ext big M M' := by
  have hM := hr.ok
  let M' : Mem := ⟨M.μ, s2.hp, M.w, M.free⟩
  have hlk : ∀ z : Key, lk M'.H z = lk M.H z := fun z => lk_congr (by show look z.1 s2.hp = _; rw [hp, hr.hp])
  have hlive : ∀ b, M'.live b → M.live b := by
    rintro b ⟨x, o, p, h1, h2⟩
    exact ⟨x, o, p, by rw [← hlk]; exact h1, h2⟩
  have hext : Ext noX M M' := ⟨⟨rfl, rfl, rfl, Nat.le_refl _, Nat.le_refl _, fun b _ hl => ⟨rfl, fun h => hl (hlive b h)⟩, fun b h => h, fun b h => .inl h⟩,
    fun x o _ hx => ⟨o, by rw [hlk]; exact hx, rfl, Nat.le_refl _, rfl, fun b p cur e _ hc => ⟨cur, hc, rfl⟩⟩⟩
  refine ⟨M', ⟨rfl, ?_, hr.defers, by rw [hn]; exact hr.size, fun d v hd => ?_⟩, rfl, hext.mono (fun x hx => by cases hx)⟩
  · refine ⟨fun x id xss h => hM.named x id xss (by rw [hr.hp, ← hp]; exact h), fun b hb => ⟨(hM.fr b hb).1, fun h => (hM.fr b hb).2 (hlive b h)⟩, fun x y o1 o2 b p q hx hy hmx hmy => ?_, fun x o1 hx hm => ?_, fun x o1 b p hx hm => ?_⟩
    · rw [hlk] at hx hy; exact hM.inj x y o1 o2 b p q hx hy hmx hmy
    · rw [hlk] at hx; exact hM.none_ x o1 hx hm
    · rw [hlk] at hx
      obtain ⟨cur, e, g1, g2, g3⟩ := hM.obj x o1 b p hx hm
      refine ⟨cur, e, g1, g2, fun i hi j hj => ?_⟩
      obtain ⟨u, k1, k2, k3⟩ := g3 i hi j hj
      exact ⟨u, k1, k2, VR_ext0 hext k3⟩
  · obtain ⟨u, hu, hv⟩ := hr.tm d v (h d v hd)
    exact ⟨u, hu, AVR_ext0 hext hv⟩
def HSub (H H' : Heap) : Prop := ∀ z o, look z H = some o → look z H' = some o
theorem ptrInto_sub {H H' : Heap} (h : HSub H H') {v : V1} {r} (hp : ptrInto H v = some r) : ptrInto H' v = some r := by
  cases v <;> simp only [ptrInto] at hp ⊢ <;> first | exact hp | skip
  all_goals
    split at hp
    · rename_i ho; rw [h _ _ ho]; exact hp
    · cases hp
theorem stLoad_sub {T : Nat → Option TI} {H H' : Heap} (h : HSub H H') {t : TypeId} {a : AV} {r} (hl : stLoad T H t a = some r) : stLoad T H' t a = some r := by
  unfold stLoad at hl ⊢
  split at hl
  · split at hl
    · rename_i ti own n z f i j hti hin
      rw [hti, ptrInto_sub h hin]
      exact hl
    · cases hl
  · cases hl
theorem stIndexAddr_sub {T : Nat → Option TI} {H H' : Heap} (h : HSub H H') {t : TypeId} {a b : AV} {r} (hl : stIndexAddr T H t a b = some r) : stIndexAddr T H' t a b = some r := by
  unfold stIndexAddr at hl ⊢
  split at hl
  · split at hl
    · split at hl
      · split at hl
        · split at hl
          · rename_i ho; rw [h _ _ ho]; exact hl
          · cases hl
        · exact hl
        · exact hl
        · exact hl
        · cases hl
      · cases hl
    · split at hl
      · split at hl
        · split at hl
          · rename_i ho; rw [h _ _ ho]; exact hl
          · cases hl
        · exact hl
      · cases hl
    · cases hl
  · cases hl
theorem sliceSz_sub {H H' : Heap} (h : HSub H H') {e : Nat} {v : V1} (hs : sliceSz H e v = true) : sliceSz H' e v = true := by
  cases v <;> simp only [sliceSz] at hs ⊢ <;> first | exact hs | skip
  split at hs
  · rename_i o ho; rw [h _ _ ho]; exact hs
  · cases hs
theorem cond_sub {α : Type} {b b' : Bool} {x : Option α} {r : α} (hb : b = true → b' = true) (h : cond b x none = some r) : cond b' x none = some r := by
  cases b
  · cases h
  · rw [hb rfl]; exact h
theorem stSlice_sub {T : Nat → Option TI} {H H' : Heap} (h : HSub H H') {ev : Operand → Option AV} {t : TypeId} {lo hi mx : Option Operand} {a : AV} {r} (hl : stSlice T H ev t lo hi mx a = some r) : stSlice T H' ev t lo hi mx a = some r := by
  unfold stSlice at hl ⊢
  split at hl
  · split at hl
    · split at hl
      · split at hl
        · split at hl
          · exact cond_sub (sliceSz_sub h) hl
          · cases hl
        · cases hl
      · cases hl
    · split at hl
      · split at hl
        · rename_i ho; rw [h _ _ ho]; exact hl
        · cases hl
      · cases hl
    · cases hl
  · cases hl
section
variable {P : Program} {T : Nat → Option TI}
theorem stepPure_sub {H H' : Heap} (h : HSub H H') {ev : Operand → Option AV} {op : Op} {r} (hl : stepPure T H ev op = some r) : stepPure T H' ev op = some r := by
  cases op <;> simp only [stepPure] at hl ⊢ <;> first | exact hl | skip
  case indexAddr t x i =>
    split at hl
    · exact stIndexAddr_sub h hl
    · cases hl
  case slice t x lo hi mx =>
    split at hl
    · exact stSlice_sub h hl
    · cases hl
theorem owed_hp {n : Nat} {tm : List (Nat × AV)} {H : Heap} (H' : Heap) (g : Bool) : ∀ ts : List Nat, (⟨n, tm, H⟩ : St).owed g ts = (⟨n, tm, H'⟩ : St).owed g ts
  | [] => rfl
  | t :: r => by
    unfold St.owed
    rw [owed_hp H' g r]
theorem stepRd_sub {n : Nat} {tm : List (Nat × AV)} {H H' : Heap} (h : HSub H H') {g : Bool} {op : Op} {r} (hl : stepRd T ⟨n, tm, H⟩ g op = some r) : stepRd T ⟨n, tm, H'⟩ g op = some r := by
  unfold stepRd at hl ⊢
  split at hl
  · exact hl
  · rename_i t x
    rw [← owed_hp (n := n) (tm := tm) (H := H) H' g (tmpsOf [x])]
    show (match (⟨n, tm, H⟩ : St).ev g (tmpsOf [x]) x with | some v => (match stLoad T H' t v with | some (cs, u) => some ((⟨n, tm, H⟩ : St).owed g (tmpsOf [x]) ++ cs, u) | none => none) | none => none) = some r
    split at hl
    · rename_i v hv
      split at hl
      · rename_i cs u hst
        rw [hv]
        simp only
        rw [stLoad_sub h hst]
        exact hl
      · cases hl
    · cases hl
  · rename_i op1 h1 h2
    split at hl
    · rename_i cs u hst
      have := stepPure_sub (T := T) h hst
      rw [← owed_hp (n := n) (tm := tm) (H := H) H' g (tmpsOf _)]
      have e : ∀ ts, (⟨n, tm, H'⟩ : St).ev g ts = (⟨n, tm, H⟩ : St).ev g ts := fun _ => rfl
      rw [e]
      simp only at this ⊢
      rw [this]
      exact hl
    · cases hl
def freshOp : Op → Bool
  | .alloc _ => true
  | .box _ _ => true
  | .makeSlice _ _ _ => true
  | .buildSlice _ _ _ => true
  | _ => false
theorem stepMem_fresh {H : Heap} {ev : Operand → Option AV} {dst : Option Nat} {op : Op} {r : MR} (hf : freshOp op = true) (h : stepMem T H ev dst op = some r) :
    ∃ id o v, r.x = some id ∧ r.val = some v ∧ big id = true ∧ r.hp = ins id o (mapV (clrO (Nat.beq id)) H) ∧ ∀ H', stepMem T H' ev dst op = some ⟨r.cs, some v, ins id o (mapV (clrO (Nat.beq id)) H'), some id⟩ := by
  have hbig : ∀ d, big (100 + d) = true := fun d => Nat.ble_eq_true_of_le (by omega)
  have new : ∀ {d t cells}, stNew T H d t cells = some r → ∃ id o v, r.x = some id ∧ r.val = some v ∧ big id = true ∧ r.hp = ins id o (mapV (clrO (Nat.beq id)) H) ∧ ∀ H', stNew T H' d t cells = some ⟨r.cs, some v, ins id o (mapV (clrO (Nat.beq id)) H'), some id⟩ := by
    intro d t cells h
    unfold stNew at h ⊢
    split at h
    · split at h
      · split at h
        · cases h
          exact ⟨_, _, _, rfl, rfl, hbig d, rfl, fun H' => rfl⟩
        · cases h
      · cases h
    · cases h
  cases op <;> simp only [freshOp] at hf <;> first | (cases hf; done) | skip
  case alloc t =>
    simp only [stepMem] at h ⊢
    split at h
    · exact new h
    · cases h
  case box t x =>
    simp only [stepMem] at h ⊢
    split at h
    · exact new h
    · cases h
  case makeSlice t l c =>
    simp only [stepMem] at h ⊢
    split at h
    · rename_i d a b h1 h2
      unfold stMake at h ⊢
      split at h
      · split at h
        · split at h
          · split at h
            · rename_i o ho
              cases hz : (zeroFits _ && szFits _)
              · rw [hz] at h; cases h
              · rw [hz] at h
                simp only [cond_true, Option.some.injEq] at h
                subst h
                exact ⟨_, _, _, rfl, rfl, hbig d, rfl, fun H' => rfl⟩
            · cases h
          · cases h
        · cases h
      · cases h
    · cases h
  case buildSlice t n parts =>
    simp only [stepMem] at h ⊢
    split at h
    · rename_i d
      unfold stBuildSlice at h ⊢
      split at h
      · split at h
        · split at h
          · rename_i cells hc
            cases hz : (Nat.ble (n * _) 16777216 && Nat.ble 1 _ && Nat.beq (litObj _ n cells).sz _ && Nat.beq (litObj _ n cells).len n)
            · rw [hz] at h; cases h
            · rw [hz] at h
              simp only [cond_true, Option.some.injEq] at h
              subst h
              exact ⟨_, _, _, rfl, rfl, hbig d, rfl, fun H' => rfl⟩
          · cases h
        · cases h
      · cases h
    · cases h
def seenV (H : Heap) : V1 → Bool
  | .rw id _ _ => (look id H).isSome
  | .mrow id _ _ => (look id H).isSome
  | .fn _ caps => caps.all fun c => match c with | .rw id _ _ => (look id H).isSome | .mrow id _ _ => (look id H).isSome | _ => true
  | _ => true
def seenA (H : Heap) : AV → Bool
  | .one v => seenV H v
  | .agg vs => vs.all (seenV H)
  | .tup es => es.all fun e => e.2.all (seenV H)
  | .whn _ v => seenA H v
theorem inV_sub {H H' : Heap} (h : HSub H H') (lent : Bool) {v : V1} (hs : (match v with | .rw id _ _ => (look id H).isSome | .mrow id _ _ => (look id H).isSome | _ => true) = true) : inV [] H lent v = inV [] H' lent v := by
  cases v <;> simp only [inV] <;> first | rfl | skip
  case rw id off len =>
    simp only at hs
    cases ho : look id H with
    | none => rw [ho] at hs; cases hs
    | some o => rw [h _ _ ho]
  case mrow id i len =>
    simp only at hs
    cases ho : look id H with
    | none => rw [ho] at hs; cases hs
    | some o => rw [h _ _ ho]
theorem liftV_sub {H H' : Heap} (h : HSub H H') (lent : Bool) {v : V1} (hs : seenV H v = true) : liftV (inV [] H lent) v = liftV (inV [] H' lent) v := by
  cases v <;> first | rfl | skip
  case rw id off len => exact inV_sub h lent (v := .rw id off len) hs
  case mrow id i len => exact inV_sub h lent (v := .mrow id i len) hs
  case fn f caps =>
    simp only [liftV]
    congr 1
    have h' := List.all_eq_true.1 hs
    exact List.map_congr_left fun c hc => inV_sub h lent (h' c hc)
theorem liftVs_sub {H H' : Heap} (h : HSub H H') (lent : Bool) {vs : List V1} (hs : vs.all (seenV H) = true) : vs.map (liftV (inV [] H lent)) = vs.map (liftV (inV [] H' lent)) := by
  have h' := List.all_eq_true.1 hs
  exact List.map_congr_left fun c hc => liftV_sub h lent (h' c hc)
theorem liftA_sub {H H' : Heap} (h : HSub H H') (lent : Bool) : ∀ {v : AV}, seenA H v = true → liftA (inV [] H lent) v = liftA (inV [] H' lent) v
  | .one v, hs => by simp only [liftA]; rw [liftV_sub h lent hs]
  | .agg vs, hs => by simp only [liftA]; rw [liftVs_sub h lent hs]
  | .tup es, hs => by
    simp only [liftA]
    congr 1
    have h' := List.all_eq_true.1 hs
    exact List.map_congr_left fun e he => by rw [liftVs_sub h lent (h' e he)]
  | .whn g v, hs => by simp only [liftA]; rw [liftA_sub h lent (v := v) hs]
def seenCall (l : List Oper) (k : Nat) (s : St) : Bool :=
  match l.drop k with
  | o :: _ =>
    (match guardOf l.toArray s o.guard, o.op with
    | some g, .call c =>
      (match c.callee with
      | .value x =>
        (match s.ev g (tmpsOf (x :: c.args.toList)) x, rawL (s.ev g (tmpsOf (x :: c.args.toList))) c.args.toList with
        | some (.one (.fn _ caps)), some avs => (avs ++ caps.map AV.one).all (seenA s.hp)
        | _, _ => false)
      | _ => false)
    | _, _ => false)
  | [] => false
theorem preCall_sub {n : Nat} {tm : List (Nat × AV)} {H H' : Heap} (h : HSub H H') {lent : Bool} {l : List Oper} {k : Nat} {p : Pre} (hpre : preCall [] lent l k ⟨n, tm, H⟩ = some p) (hs : seenCall l k ⟨n, tm, H⟩ = true) : preCall [] lent l k ⟨n, tm, H'⟩ = some p := by
  unfold preCall at hpre ⊢
  unfold seenCall at hs
  split at hpre
  · rename_i o r hl
    rw [hl] at hs
    simp only at hs
    split at hpre
    · rename_i g c hg hop
      rw [hg] at hs
      rw [hop] at hs
      simp only at hs
      have hg' : guardOf l.toArray (⟨n, tm, H'⟩ : St) o.guard = some g := hg
      rw [hg', hop]
      simp only
      split at hpre
      · rename_i x hx
        rw [hx] at hs
        simp only at hs
        split at hpre
        · rename_i f caps avs hh e1 e2 e3
          rw [e1, e2] at hs
          simp only at hs
          have e1' : (⟨n, tm, H'⟩ : St).ev g (tmpsOf (x :: c.args.toList)) x = some (.one (.fn f caps)) := e1
          have e2' : rawL ((⟨n, tm, H'⟩ : St).ev g (tmpsOf (x :: c.args.toList))) c.args.toList = some avs := e2
          simp only [e1', e2', inH] at e3 ⊢
          rw [← hpre]
          cases e3
          rw [← owed_hp (n := n) (tm := tm) (H := H) H' g (tmpsOf (x :: c.args.toList))]
          congr 2
          have h' := List.all_eq_true.1 hs
          exact (List.map_congr_left fun v hv => liftA_sub h lent (h' v hv)).symm
        · cases hpre
      · cases hpre
    · cases hpre
  · cases hpre
def newB (lent : Bool) (c : CallI) : Option Heap := outH c.hr lent (outV c.new lent) c.new []
def calmVal2 (P : Program) (T : Nat → Option TI) (tab : Tab) (lent : Bool) (l : List Oper) (i : Nat) (s : St) : Option (List Prop × AV × Heap) :=
  match l.drop i with
  | o :: _ =>
    (match guardOf l.toArray s o.guard with
    | some g =>
      (match stepRd T s g o.op with
      | some (cs, v) => some (wrapC o.guard g cs, wrapG o.guard g v, [])
      | none => cond (freshOp o.op)
        (cond g (match stepMem T s.hp (s.ev true (tmpsOf o.op.operands.toList)) o.dst o.op with
          | some r => (match r.x, r.val with
            | some id, some v => (match look id r.hp with | some ob => some (s.owed true (tmpsOf o.op.operands.toList) ++ r.cs, v, [(id, ob)]) | none => none)
            | _, _ => none)
          | none => none) none)
        (match preCall [] lent l i s, look i tab with
        | some p, some c => cond (seenCall l i s) (match c.new with
          | [] => some ([p.g = true → (AllP p.cs ∧ p.args = c.args ∧ ACall P p.f c.args [] (fun v H => v = c.res ∧ H = []))], wrapG o.guard p.g (liftA (outV [] lent) c.res), [])
          | _ :: _ => cond (p.g && (okR c.new && allBig c.new)) (match newB lent c with
            | some bs => some ([AllP p.cs ∧ p.args = c.args ∧ ACall P p.f c.args [] (fun v H => v = c.res ∧ H = c.hr)], liftA (outV c.new lent) c.res, bs)
            | none => none) none) none
        | _, _ => none))
    | none => none)
  | [] => none
theorem outH_acc {H1 : Heap} {lent : Bool} {g : V1 → V1} : ∀ {ρ : List (Nat × Nat)} {acc h : Heap} (acc' : Heap), outH H1 lent g ρ acc = some h → ∃ h', outH H1 lent g ρ acc' = some h'
  | [], _, _, acc', _ => ⟨acc', rfl⟩
  | (x, y) :: r, acc, h, acc', e => by
    unfold outH at e ⊢
    split at e
    · rename_i o h1 e1 e2
      obtain ⟨h2, e3⟩ := outH_acc (ρ := r) acc' e2
      rw [e1, e3]
      simp only
      cases hb : lentOk lent o
      · rw [hb] at e; cases e
      · exact ⟨_, rfl⟩
    · cases e
theorem inH_nil_hin {lent : Bool} {l : List Oper} {k : Nat} {s : St} {p : Pre} (hp : preCall [] lent l k s = some p) : p.hin = [] := by
  unfold preCall at hp
  split at hp
  · split at hp
    · split at hp
      · split at hp
        · rename_i e1 e2 e3
          simp only [inH, Option.some.injEq] at e3
          cases hp
          exact e3.symm
        · cases hp
      · cases hp
    · cases hp
  · cases hp
theorem clrA_none {X : Nat → Bool} (hX : ∀ z, X z = false) (tm : List (Nat × AV)) : mapV (clrA X) tm = tm := by
  have : X = noX := funext hX
  rw [this]
  exact mapV_id (fun v => clrA_no v) tm
theorem clrO_none {X : Nat → Bool} (hX : ∀ z, X z = false) (o : Option Obj) : o.map (clrO X) = o := by
  have : X = noX := funext hX
  rw [this]
  cases o with
  | none => rfl
  | some o => simp only [Option.map_some, clrO_no]
def bsX (bs : Heap) (z : Nat) : Bool := (look z bs).isSome
structure Behind (d : Nat) (v : AV) (bs : Heap) (s s2 : St) : Prop where
  n : s2.n = s.n
  tm : s2.tm = ins d v (mapV (clrA (bsX bs)) s.tm)
  new : ∀ z o, look z bs = some o → look z s2.hp = some o
  old : ∀ z, look z bs = none → look z s2.hp = (look z s.hp).map (clrO (bsX bs))
theorem calmVal2_sound {l : List Oper} {tab : Tab} {lent : Bool} {i d : Nat} {cs : List Prop} {v : AV} {bs : Heap} {o : Oper} {r : List Oper} {S s : St} (hT : ∀ t i, T t = some i → TF P t i) (hl : l.drop i = o :: r) (hd : o.dst = some d) (hdn : Nat.ble (d + 1) s.n = true)
    (h : calmVal2 P T tab lent l i S = some (cs, v, bs)) (hc : AllP cs) (hn : S.n = s.n) (hH : HSub S.hp s.hp) (hsub : ∀ t x, look t S.tm = some x → look t s.tm = some x) {M : Mem} {a : Act} {Kx : Act → World → Prop} {Q : Exit → Act → World → Prop} (hr : Rel M s a)
    (hk : ∀ M' a' s2, Ext big M M' → Rel M' s2 a' → Behind d v bs s s2 → Kx a' M'.w) : wpOp P l.toArray Q i Kx a M.w := by
  obtain ⟨Sn, Stm, SH⟩ := S
  simp only at hn hH hsub
  have hput : ∀ x tm, putD o.dst x s.n tm = some (ins d x tm) := fun x tm => by rw [hd]; simp only [putD, hdn, cond_true]
  have hrS : Rel M ⟨Sn, Stm, s.hp⟩ a := hr.sub hn rfl hsub
  have plain : ∀ x, Behind d x [] s ⟨s.n, ins d x s.tm, s.hp⟩ := fun x => ⟨rfl, (by rw [clrA_none (X := bsX []) (fun z => rfl)]), (fun z o hz => by cases hz), (fun z _ => by rw [clrO_none (X := bsX []) (fun z => rfl)])⟩
  unfold calmVal2 at h
  rw [hl] at h
  simp only at h
  split at h
  · rename_i g hgo
    have hgo' : guardOf l.toArray (⟨Sn, Stm, s.hp⟩ : St) o.guard = some g := hgo
    have hw := guard_sound hrS hgo'
    split at h
    · rename_i cs1 v1 hrd
      simp only [Option.some.injEq, Prod.mk.injEq] at h
      obtain ⟨rfl, rfl, rfl⟩ := h
      refine wpOp_of_ok ?_
      unfold OpOk
      rw [hl]
      simp only
      cases hg : g
      · rw [if_neg (by rw [hw, hg]; decide)]
        have hgd : ∃ q, o.guard = some q := by
          cases hq : o.guard with
          | none => rw [hq] at hgo; simp only [guardOf, Option.some.injEq] at hgo; rw [← hgo] at hg; cases hg
          | some q => exact ⟨q, rfl⟩
        obtain ⟨q, hq⟩ := hgd
        have hv : AVR M (wrapG o.guard g v1) undef := by
          rw [hq, hg]; exact ⟨fun h => (by cases h), fun _ => rfl⟩
        exact hk M _ _ (Ext.refl _ _) (hr.put (hput _ _) hv) (plain _)
      · rw [if_pos (by rw [hw, hg])]
        refine .inl ?_
        rw [hg] at hc hrd
        obtain ⟨u, hu, huv⟩ := stepRd_sound (P := P) hT rfl hrS (stepRd_sub hH hrd) (wrapC_true hc)
        unfold Oper.wp
        rw [hu]
        have hv : AVR M (wrapG o.guard g v1) u := by
          unfold wrapG
          split
          · exact huv
          · rw [hg]; exact ⟨fun _ => huv, fun h => by cases h⟩
        exact hk M _ _ (Ext.refl _ _) (hr.put (hput _ _) hv) (plain _)
    · cases hf : freshOp o.op
      ·
        rw [hf] at h
        simp only [cond_false] at h
        split at h
        · rename_i p c hpre htab
          cases hseen : seenCall l i ⟨Sn, Stm, SH⟩
          · rw [hseen] at h; cases h
          · rw [hseen] at h
            simp only [cond_true] at h
            have hpre1 := preCall_sub (n := Sn) (tm := Stm) hH hpre hseen
            have hpre2 : preCall [] lent l i s = some p := preCall_mono (S := ⟨Sn, Stm, s.hp⟩) hsub rfl hpre1
            split at h
            · simp only [Option.some.injEq, Prod.mk.injEq] at h
              obtain ⟨rfl, rfl, rfl⟩ := h
              have hcond := hc.1
              refine wpOp_of_ok (pure_op lent p c.args c.res ⟨s.n, ins d (wrapG o.guard p.g (liftA (outV [] lent) c.res)) s.tm, s.hp⟩ hpre2 ?_ (fun hg => (hcond hg).1) (fun hg => (hcond hg).2.1) (fun hg => (hcond hg).2.2) hr
                (fun M' a' he' hr' => hk M' a' _ he' hr' (plain _)))
              unfold pureS
              rw [hl]
              simp only
              cases hgd : o.guard with
              | none => simp only [hput, wrapG]
              | some q => simp only [hput, wrapG]
            · cases hb : (p.g && (okR c.new && allBig c.new))
              · rw [hb] at h; cases h
              · rw [hb] at h
                simp only [cond_true] at h
                simp only [Bool.and_eq_true] at hb
                split at h
                · rename_i bs1 hbs
                  simp only [Option.some.injEq, Prod.mk.injEq] at h
                  obtain ⟨rfl, rfl, rfl⟩ := h
                  obtain ⟨k1, k2, k3⟩ := hc.1
                  have hin := inH_nil_hin hpre2
                  have hm : missS l i s = some ⟨s.n, ins d (.whn false (.one .any)) s.tm, s.hp⟩ := by
                    unfold missS; rw [hl]; simp only [hput]
                  refine wpOp_of_ok (call_op (Φ := fun v H => v = c.res ∧ H = c.hr) [] c.new lent p c.args hpre2 hm (by simp only [List.nil_append, hb.2.1, hb.2.2]; rfl) (fun _ => k1) k2 (fun _ => by rw [hin]; exact k3) hr (fun _ v Hr hvH => ?_) (fun hg => by rw [hb.1] at hg; cases hg))
                  obtain ⟨rfl, rfl⟩ := hvH
                  obtain ⟨H2, hH2⟩ := outH_acc (mapV (clrO (newN c.new)) s.hp) hbs
                  have l1 := outH_look hbs
                  have l2 := outH_look hH2
                  have hXe : bsX bs1 = newN c.new := by
                    funext z
                    unfold bsX newN
                    cases hz : backN c.new z with
                    | none => rw [(l1 z).2 hz]; rfl
                    | some x =>
                      obtain ⟨ob, _, _, e3⟩ := (l1 z).1 x hz
                      rw [e3]; rfl
                  refine ⟨⟨s.n, ins d (liftA (outV c.new lent) c.res) (mapV (clrA (newN c.new)) s.tm), H2⟩, ?_, fun M' a' he' hr' => hk M' a' _ he' hr' ⟨rfl, by rw [hXe], fun z ob hz => ?_, fun z hz => ?_⟩⟩
                  · unfold outS
                    rw [hl]
                    simp only [List.nil_append, hH2, hput]
                  · cases hbz : backN c.new z with
                    | none => rw [(l1 z).2 hbz] at hz; cases hz
                    | some x =>
                      obtain ⟨o1, e1, _, e3⟩ := (l1 z).1 x hbz
                      obtain ⟨o2, f1, _, f3⟩ := (l2 z).1 x hbz
                      rw [e1] at f1
                      cases f1
                      rw [e3] at hz
                      show look z H2 = _
                      rw [f3, hz]
                  · cases hbz : backN c.new z with
                    | none =>
                      show look z H2 = _
                      rw [(l2 z).2 hbz, look_mapV, hXe]
                    | some x =>
                      obtain ⟨o1, e1, _, e3⟩ := (l1 z).1 x hbz
                      rw [e3] at hz; cases hz
                · cases h
        · cases h
      ·
        rw [hf] at h
        simp only [cond_true] at h
        cases hg : g
        · rw [hg] at h; cases h
        · rw [hg] at h
          simp only [cond_true] at h
          split at h
          · rename_i rr hmem
            obtain ⟨id, ob, v0, x1, x2, x3, x4, x5⟩ := stepMem_fresh hf hmem
            rw [x1, x2] at h
            simp only at h
            have hlk : look id rr.hp = some ob := by rw [x4, look_ins, if_pos rfl]
            rw [hlk] at h
            simp only [Option.some.injEq, Prod.mk.injEq] at h
            obtain ⟨rfl, rfl, rfl⟩ := h
            obtain ⟨c1, c2⟩ := AllP_append.1 hc
            have hev : ∀ x v, (⟨Sn, Stm, s.hp⟩ : St).ev true (tmpsOf o.op.operands.toList) x = some v → AVR M v (a.eval x) := ev_sound rfl hrS (by rw [owed_hp (H' := SH)]; exact c1)
            have hm2 := x5 M.H
            obtain ⟨n, M', hrun, hHM, hok, hext, hval⟩ := stepMem_sound (P := P) hT hr.ok hev hm2 c2
            obtain ⟨u, rfl, huv⟩ := hval
            refine wpOp_of_ok ?_
            unfold OpOk
            rw [hl]
            simp only
            rw [if_pos (by rw [hw, hg])]
            refine .inl ?_
            unfold Oper.wp
            rw [hrun]
            have hXe : bsX [(id, ob)] = Nat.beq id := by
              funext z
              unfold bsX look look
              cases Nat.beq id z <;> rfl
            have hst := hr.step hHM hok hext
            refine hk M' _ ⟨s.n, ins d v0 (mapV (clrA (Nat.beq id)) s.tm), ins id ob (mapV (clrO (Nat.beq id)) M.H)⟩ (hext.mono fun x hx => by
              have := Nat.eq_of_beq_eq_true hx; subst this; exact x3) (hst.put (hput _ _) huv) ⟨rfl, by rw [hXe], fun z o1 hz => ?_, fun z hz => ?_⟩
            · unfold look at hz
              cases hbz : Nat.beq id z
              · rw [hbz] at hz; cases hz
              · rw [hbz] at hz
                simp only [cond_true, Option.some.injEq] at hz
                subst hz
                have := Nat.eq_of_beq_eq_true hbz
                subst this
                show look id (ins id ob _) = _
                rw [look_ins, if_pos rfl]
            · have hne : z ≠ id := by
                rintro rfl
                unfold look at hz
                rw [beq_self] at hz; cases hz
              show look z (ins id ob _) = _
              rw [look_ins, if_neg hne, look_mapV, hXe, hr.hp]
          · cases h
  · cases h
end
end Go.Ab
namespace Go.Ab
open Go
structure Ent where
  d : Nat
  v : AV
  bs : Heap
abbrev Ents := List (Nat × Ent)
def valsOf : Ents → Vals
  | [] => []
  | (k, e) :: r => (k, (e.d, e.v)) :: valsOf r
def insB : Heap → Heap → Heap
  | [], H => H
  | (z, o) :: r, H => ins z o (insB r H)
def hpOf (es : Ents) (H : Heap) : List Nat → Heap
  | [] => H
  | j :: r => (match look j es with | some e => insB e.bs (hpOf es H r) | none => hpOf es H r)
def hpAll : Ents → Heap → Heap
  | [], H => H
  | (_, e) :: r, H => insB e.bs (hpAll r H)
def clsAt : List (List Nat) → Nat → List Nat
  | [], _ => []
  | c :: _, 0 => c
  | _ :: r, i + 1 => clsAt r i
def run2 (P : Program) (T : Nat → Option TI) (tab : Tab) (lent : Bool) (l : List Oper) (cls : List (List Nat)) (s : St) : List Oper → Nat → Ents → Option (List (Nat × List Prop) × Ents)
  | [], _, es => some ([], es)
  | o :: r, i, es =>
    (match o.dst with
    | some d =>
      (match calmVal2 P T tab lent l i ⟨s.n, pickSlots s.tm (valsOf es) (bindsOf o.after.toList) (usesOf l o), hpOf es s.hp (clsAt cls i)⟩ with
      | some (cs, v, bs) => (match run2 P T tab lent l cls s r (i + 1) ((i, ⟨d, v, bs⟩) :: es) with | some (cds, fs) => some ((i, cs) :: cds, fs) | none => none)
      | none => none)
    | none => none)
def newX (es : Ents) (z : Nat) : Bool := es.any fun e => bsX e.2.bs z
def otherX (es : Ents) (i : Nat) (c : List Nat) (z : Nat) : Bool := es.any fun f => !(Nat.beq f.1 i) && !(hasN f.1 c) && bsX f.2.bs z
def entsOk (cls : List (List Nat)) (s : St) (es : Ents) : Bool :=
  s.tm.all (fun p => refsA (newX es) p.2) && s.hp.all (fun p => refsO (newX es) p.2) &&
  es.all (fun e => refsA (otherX es e.1 (clsAt cls e.1)) e.2.v && e.2.bs.all (fun p => refsO (otherX es e.1 (clsAt cls e.1)) p.2 && (look p.1 s.hp).isNone &&
    es.all (fun f => Nat.beq f.1 e.1 || !(bsX f.2.bs p.1))))
def clsOk (l : List Oper) (cls : List (List Nat)) : Nat → List Oper → Bool
  | _, [] => true
  | i, o :: r => (clsAt cls i).all (fun k => hasN k (bindsOf o.after.toList) || (bindsOf o.after.toList).any (fun j => hasN k (clsAt cls j))) && clsOk l cls (i + 1) r
def KeysG {α : Type} : List (Nat × α) → Prop
  | [] => True
  | (k, _) :: r => k = r.length ∧ KeysG r
section
variable {α : Type}
theorem KeysG.lt : ∀ {vs : List (Nat × α)}, KeysG vs → ∀ {j : Nat} {x : α}, look j vs = some x → j < vs.length
  | [], _, _, _, h => by cases h
  | (k, y) :: r, hk, j, x, h => by
    unfold look at h
    cases hb : Nat.beq k j
    · rw [hb] at h
      have := KeysG.lt hk.2 h
      simp only [List.length_cons]; omega
    · have := Nat.eq_of_beq_eq_true hb
      have := hk.1
      simp only [List.length_cons]; omega
theorem KeysG.there : ∀ {vs : List (Nat × α)}, KeysG vs → ∀ {j : Nat}, j < vs.length → ∃ x, look j vs = some x
  | [], _, _, h => by simp at h
  | (k, y) :: r, hk, j, h => by
    unfold look
    cases hb : Nat.beq k j
    · have hne : k ≠ j := by rintro rfl; rw [beq_self] at hb; cases hb
      have := hk.1
      simp only [List.length_cons] at h
      exact KeysG.there hk.2 (by omega)
    · exact ⟨y, rfl⟩
theorem KeysG.up {vs : List (Nat × α)} (hk : KeysG vs) {y : α} {j : Nat} {x : α} (h : look j vs = some x) : look j ((vs.length, y) :: vs) = some x := by
  unfold look
  have := hk.lt h
  rw [beq_ne (show vs.length ≠ j by omega)]
  exact h
theorem KeysG.mem : ∀ {vs : List (Nat × α)}, KeysG vs → ∀ {k : Nat} {x : α}, (k, x) ∈ vs → look k vs = some x
  | [], _, _, _, h => by cases h
  | (k0, y) :: r, hk, k, x, h => by
    obtain ⟨h1, h2⟩ := hk
    subst h1
    rcases List.mem_cons.1 h with h | h
    · cases h
      unfold look; rw [beq_self]; rfl
    · exact h2.up (KeysG.mem h2 h)
end
theorem look_cons {α : Type} (k z : Nat) (v : α) (r : List (Nat × α)) : look z ((k, v) :: r) = if z = k then some v else look z r := by
  show cond (Nat.beq k z) (some v) (look z r) = _
  by_cases h : z = k
  · subst h; rw [if_pos rfl, beq_self]; rfl
  · rw [if_neg h, beq_ne (Ne.symm h)]; rfl
theorem valsOf_len : ∀ es : Ents, (valsOf es).length = es.length
  | [] => rfl
  | (_, _) :: r => congrArg (· + 1) (valsOf_len r)
theorem keys_vals : ∀ {es : Ents}, KeysG es → KeysOk (valsOf es)
  | [], _ => trivial
  | (_, _) :: r, h => ⟨h.1.trans (valsOf_len r).symm, keys_vals h.2⟩
theorem look_vals {j : Nat} : ∀ {es : Ents}, look j (valsOf es) = (look j es).map fun e => (e.d, e.v)
  | [] => rfl
  | (k, e) :: r => by
    show look j ((k, (e.d, e.v)) :: valsOf r) = _
    rw [look_cons, look_cons, look_vals (es := r)]
    split <;> rfl
theorem mem_look {α : Type} {k : Nat} {x : α} : ∀ {l : List (Nat × α)}, look k l = some x → (k, x) ∈ l
  | [], h => by cases h
  | (k0, y) :: r, h => by
    unfold look at h
    cases hb : Nat.beq k0 k
    · rw [hb] at h; exact List.mem_cons_of_mem _ (mem_look h)
    · rw [hb] at h
      have := Nat.eq_of_beq_eq_true hb
      subst this
      cases h
      exact List.mem_cons_self
theorem insB_at {z : Nat} {H : Heap} : ∀ {bs : Heap}, look z (insB bs H) = (match look z bs with | some o => some o | none => look z H)
  | [] => rfl
  | (k, o) :: r => by
    unfold insB
    rw [look_ins, insB_at (bs := r), look_cons]
    by_cases hz : z = k
    · rw [if_pos hz, if_pos hz]
    · rw [if_neg hz, if_neg hz]
theorem hpOf_at {es : Ents} {H : Heap} {z : Nat} {o : Obj} : ∀ {js : List Nat}, look z (hpOf es H js) = some o → (∃ j ∈ js, ∃ e, look j es = some e ∧ look z e.bs = some o) ∨ look z H = some o
  | [], h => .inr h
  | j :: r, h => by
    unfold hpOf at h
    split at h
    · rename_i e he
      rw [insB_at] at h
      split at h
      · rename_i o1 ho1
        cases h
        exact .inl ⟨j, List.mem_cons_self, e, he, ho1⟩
      · rcases hpOf_at h with ⟨k, hk, x⟩ | h
        · exact .inl ⟨k, List.mem_cons_of_mem _ hk, x⟩
        · exact .inr h
    · rcases hpOf_at h with ⟨k, hk, x⟩ | h
      · exact .inl ⟨k, List.mem_cons_of_mem _ hk, x⟩
      · exact .inr h
theorem hpAll_at {H : Heap} {z : Nat} : ∀ {es : Ents}, (∃ p ∈ es, ∃ o, look z p.2.bs = some o ∧ look z (hpAll es H) = some o) ∨ ((∀ p ∈ es, look z p.2.bs = none) ∧ look z (hpAll es H) = look z H)
  | [] => .inr ⟨(fun p hp => by cases hp), rfl⟩
  | (k, e) :: r => by
    unfold hpAll
    rw [insB_at]
    cases he : look z e.bs with
    | some o => exact .inl ⟨(k, e), List.mem_cons_self, o, he, rfl⟩
    | none =>
      rcases hpAll_at (H := H) (z := z) (es := r) with ⟨p, hp, o, h1, h2⟩ | ⟨h1, h2⟩
      · exact .inl ⟨p, List.mem_cons_of_mem _ hp, o, h1, h2⟩
      · refine .inr ⟨fun p hp => ?_, h2⟩
        rcases List.mem_cons.1 hp with rfl | hp
        · exact he
        · exact h1 p hp
def OpAt2 (P : Program) (T : Nat → Option TI) (tab : Tab) (lent : Bool) (l : List Oper) (cls : List (List Nat)) (s : St) (es : Ents) (i : Nat) (o : Oper) : Prop :=
  ∃ d cs v bs, ∃ ei : Ents, o.dst = some d ∧ look i es = some ⟨d, v, bs⟩ ∧ AllP cs ∧
    calmVal2 P T tab lent l i ⟨s.n, pickSlots s.tm (valsOf ei) (bindsOf o.after.toList) (usesOf l o), hpOf ei s.hp (clsAt cls i)⟩ = some (cs, v, bs) ∧
    (∀ j x, look j ei = some x → look j es = some x) ∧ (∀ j, j < i → ∃ x, look j ei = some x)
theorem run2_at {P : Program} {T : Nat → Option TI} {tab : Tab} {lent : Bool} {l : List Oper} {cls : List (List Nat)} {s : St} : ∀ (rest : List Oper) (vals : Ents) {cds : List (Nat × List Prop)} {es : Ents}, KeysG vals → run2 P T tab lent l cls s rest vals.length vals = some (cds, es) → AllC cds →
    KeysG es ∧ es.length = vals.length + rest.length ∧ (∀ j x, look j vals = some x → look j es = some x) ∧ ∀ k o, rest[k]? = some o → OpAt2 P T tab lent l cls s es (vals.length + k) o
  | [], vals, cds, es, hk, h, _ => by
    simp only [run2, Option.some.injEq, Prod.mk.injEq] at h
    obtain ⟨_, rfl⟩ := h
    exact ⟨hk, rfl, fun _ _ h => h, fun k o hko => by simp at hko⟩
  | o :: r, vals, cds, es, hk, h, hc => by
    unfold run2 at h
    split at h
    · rename_i d hd
      split at h
      · rename_i cs v bs hv
        split at h
        · rename_i cds1 es1 hrun
          simp only [Option.some.injEq, Prod.mk.injEq] at h
          obtain ⟨rfl, rfl⟩ := h
          have hk1 : KeysG ((vals.length, (⟨d, v, bs⟩ : Ent)) :: vals) := ⟨rfl, hk⟩
          obtain ⟨a1, a2, a3, a4⟩ := run2_at r ((vals.length, ⟨d, v, bs⟩) :: vals) hk1 hrun hc.2
          refine ⟨a1, by simp only [List.length_cons] at a2 ⊢; omega, fun j x hj => a3 j x (hk.up hj), fun k q hq => ?_⟩
          cases k with
          | zero =>
            simp only [List.getElem?_cons_zero, Option.some.injEq] at hq
            subst hq
            exact ⟨d, cs, v, bs, vals, hd, a3 _ _ (by unfold look; rw [Nat.add_zero, beq_self]; rfl), hc.1, hv, fun j x hj => a3 j x (hk.up hj), fun j hj => hk.there (by omega)⟩
          | succ k =>
            have := a4 k q (by simpa using hq)
            rw [show ((vals.length, (⟨d, v, bs⟩ : Ent)) :: vals).length + k = vals.length + (k + 1) by simp only [List.length_cons]; omega] at this
            exact this
        · cases h
      · cases h
    · cases h
theorem clsOk_at {l : List Oper} {cls : List (List Nat)} : ∀ {rest : List Oper} {i0 : Nat}, clsOk l cls i0 rest = true → ∀ k o, rest[k]? = some o → ∀ x ∈ clsAt cls (i0 + k), x ∈ bindsOf o.after.toList ∨ ∃ j ∈ bindsOf o.after.toList, x ∈ clsAt cls j
  | [], _, _, k, o, hk => by simp at hk
  | p :: r, i0, h, k, o, hk => by
    unfold clsOk at h
    simp only [Bool.and_eq_true] at h
    cases k with
    | zero =>
      simp only [List.getElem?_cons_zero, Option.some.injEq] at hk
      subst hk
      intro x hx
      have := List.all_eq_true.1 h.1 x hx
      simp only [Bool.or_eq_true, List.any_eq_true] at this
      rcases this with h1 | ⟨j, h1, h2⟩
      · exact .inl (hasN_mem.1 h1)
      · exact .inr ⟨j, h1, hasN_mem.1 h2⟩
    | succ k =>
      have := clsOk_at h.2 k o (by simpa using hk)
      rw [show i0 + 1 + k = i0 + (k + 1) by omega] at this
      exact this
structure EntsOk (cls : List (List Nat)) (s : St) (es : Ents) : Prop where
  tm : ∀ t v, look t s.tm = some v → refsA (newX es) v = true
  hp : ∀ z o, look z s.hp = some o → refsO (newX es) o = true
  v : ∀ i e, look i es = some e → refsA (otherX es i (clsAt cls i)) e.v = true
  o : ∀ i e z o, look i es = some e → look z e.bs = some o → refsO (otherX es i (clsAt cls i)) o = true ∧ look z s.hp = none ∧ ∀ j f, look j es = some f → j ≠ i → look z f.bs = none
theorem entsOk_all {cls : List (List Nat)} {s : St} {es : Ents} (h : entsOk cls s es = true) : EntsOk cls s es := by
  unfold entsOk at h
  simp only [Bool.and_eq_true] at h
  obtain ⟨⟨h1, h2⟩, h3⟩ := h
  refine ⟨fun t v hv => List.all_eq_true.1 h1 _ (mem_look hv), fun z o ho => List.all_eq_true.1 h2 _ (mem_look ho), fun i e he => ?_, fun i e z o he ho => ?_⟩
  · have := List.all_eq_true.1 h3 _ (mem_look he)
    simp only [Bool.and_eq_true] at this
    exact this.1
  · have := List.all_eq_true.1 h3 _ (mem_look he)
    simp only [Bool.and_eq_true] at this
    have := List.all_eq_true.1 this.2 _ (mem_look ho)
    simp only [Bool.and_eq_true] at this
    obtain ⟨⟨k1, k2⟩, k3⟩ := this
    refine ⟨k1, Option.isNone_iff_eq_none.1 k2, fun j f hf hne => ?_⟩
    have := List.all_eq_true.1 k3 _ (mem_look hf)
    simp only [Bool.or_eq_true, Bool.not_eq_true'] at this
    rcases this with h | h
    · exact absurd (Nat.eq_of_beq_eq_true h) hne
    · unfold bsX at h
      cases hz : look z f.bs with
      | none => rfl
      | some q => rw [hz] at h; cases h
theorem newX_of {es : Ents} {i : Nat} {e : Ent} (h : look i es = some e) {z : Nat} (hz : bsX e.bs z = true) : newX es z = true := by
  unfold newX
  rw [List.any_eq_true]
  exact ⟨(i, e), mem_look h, hz⟩
theorem otherX_of {es : Ents} {i j : Nat} {e : Ent} {c : List Nat} (h : look i es = some e) (hij : i ≠ j) (hc : i ∉ c) {z : Nat} (hz : bsX e.bs z = true) : otherX es j c z = true := by
  unfold otherX
  rw [List.any_eq_true]
  refine ⟨(i, e), mem_look h, ?_⟩
  simp only [Bool.and_eq_true, Bool.not_eq_true']
  refine ⟨⟨beq_ne hij, ?_⟩, hz⟩
  cases hh : hasN i c
  · rfl
  · exact absurd (hasN_mem.1 hh) hc
structure Calm2 (l : List Oper) (s0 : St) (es : Ents) (listed : Array Bool) (s : St) : Prop where
  n : s.n = s0.n
  size : listed.size = l.length
  got : ∀ j e, listed.getD j false = true → look j es = some e → look e.d s.tm = some e.v
  old : ∀ t, (∀ j e, listed.getD j false = true → look j es = some e → e.d ≠ t) → look t s.tm = look t s0.tm
  gotH : ∀ j e z o, listed.getD j false = true → look j es = some e → look z e.bs = some o → look z s.hp = some o
  oldH : ∀ z, (∀ j e, listed.getD j false = true → look j es = some e → look z e.bs = none) → look z s.hp = look z s0.hp
  closed : ∀ j o, listed.getD j false = true → l[j]? = some o → ∀ i ∈ bindsOf o.after.toList, listed.getD i false = true
def depsOk : Nat → List Oper → Bool
  | _, [] => true
  | i, o :: r => (bindsOf o.after.toList).all (fun j => Nat.blt j i) && depsOk (i + 1) r
def calmP (l p : List Oper) (n : Nat) : Nat → List Oper → Bool
  | _, [] => true
  | i, o :: r => (match o.dst with | some d => Nat.ble (d + 1) n | none => false) && pairOk l i o 0 p && calmP l p n (i + 1) r
theorem depsOk_at : ∀ {rest : List Oper} {i0 : Nat}, depsOk i0 rest = true → ∀ k o, rest[k]? = some o → ∀ j ∈ bindsOf o.after.toList, j < i0 + k
  | [], _, _, k, o, hk => by simp at hk
  | p :: r, i0, h, k, o, hk => by
    unfold depsOk at h
    simp only [Bool.and_eq_true] at h
    cases k with
    | zero =>
      simp only [List.getElem?_cons_zero, Option.some.injEq] at hk
      subst hk
      exact fun j hj => Nat.le_of_ble_eq_true (List.all_eq_true.1 h.1 j hj)
    | succ k =>
      have := depsOk_at h.2 k o (by simpa using hk)
      rw [show i0 + 1 + k = i0 + (k + 1) by omega] at this
      exact this
theorem calmP_at {l p : List Oper} {n : Nat} : ∀ {rest : List Oper} {i0 : Nat}, calmP l p n i0 rest = true → ∀ k o, rest[k]? = some o → (∃ d, o.dst = some d ∧ Nat.ble (d + 1) n = true) ∧ pairOk l (i0 + k) o 0 p = true
  | [], _, _, k, o, hk => by simp at hk
  | q :: r, i0, h, k, o, hk => by
    unfold calmP at h
    simp only [Bool.and_eq_true] at h
    obtain ⟨⟨h2, h3⟩, h4⟩ := h
    cases k with
    | zero =>
      simp only [List.getElem?_cons_zero, Option.some.injEq] at hk
      subst hk
      refine ⟨?_, h3⟩
      split at h2
      · rename_i d hd; exact ⟨d, hd, h2⟩
      · cases h2
    | succ k =>
      have := calmP_at h4 k o (by simpa using hk)
      rw [show i0 + 1 + k = i0 + (k + 1) by omega] at this
      exact this
theorem calm_any2 {P : Program} {T : Nat → Option TI} {tab : Tab} {lent : Bool} {l : List Oper} {cls : List (List Nat)} {s0 : St} {es : Ents} {m : Nat} {M0 : Mem} {Q : Exit → Act → World → Prop} (hT : ∀ t i, T t = some i → TF P t i) (hml : m ≤ l.length) (hk : KeysG es) (hlen : es.length = m)
    (hops : ∀ k o, k < m → l[k]? = some o → OpAt2 P T tab lent l cls s0 es k o) (hdep : depsOk 0 l = true) (hok : calmP l (l.take m) s0.n 0 (l.take m) = true) (hcl : clsOk l cls 0 l = true) (hes : EntsOk cls s0 es) (htail : ∀ t, m ≤ t → t < l.length → ∀ j, j < m → j ∈ clsAt cls t)
    (hq : ∀ M a, Ext big M0 M → Rel M ⟨s0.n, insAll (valsOf es) s0.tm, hpAll es s0.hp⟩ a → wpAny P .any l.toArray (QN Q) (l.length - m) (List.replicate m true ++ List.replicate (l.length - m) false).toArray a M.w) :
    ∀ (fuel : Nat) (listed : Array Bool) (s : St), left listed.toList = fuel → Calm2 l s0 es listed s → (∀ t, m ≤ t → listed.getD t false = false) → ∀ M a, Ext big M0 M → Rel M s a → wpAny P .any l.toArray (QN Q) fuel listed a M.w := by
  have done : ∀ (listed : Array Bool) (s : St), Calm2 l s0 es listed s → (∀ t, m ≤ t → listed.getD t false = false) → (∀ j, j < m → listed.getD j false = true) → ∀ M a, Ext big M0 M → Rel M s a → wpAny P .any l.toArray (QN Q) (left listed.toList) listed a M.w := by
    intro listed s hcalm hno hall M a he hr
    have hle : listed.toList = List.replicate m true ++ List.replicate (l.length - m) false := by
      apply List.ext_getElem?
      intro k
      by_cases hk1 : k < l.length
      · have hks : k < listed.size := by rw [hcalm.size]; exact hk1
        have hg : listed.toList[k]? = some (listed.getD k false) := by
          rw [Array.getElem?_toList, Array.getElem?_eq_getElem hks, Array.getD_eq_getD_getElem?, Array.getElem?_eq_getElem hks]; rfl
        rw [hg]
        by_cases hkm : k < m
        · rw [hall k hkm, List.getElem?_append_left (by simpa using hkm), List.getElem?_replicate, if_pos hkm]
        · rw [hno k (by omega), List.getElem?_append_right (by simp; omega), List.getElem?_replicate, if_pos (by simp; omega)]
      · rw [List.getElem?_eq_none (by rw [Array.length_toList, hcalm.size]; omega), List.getElem?_eq_none (by simp; omega)]
    have hla : listed = (List.replicate m true ++ List.replicate (l.length - m) false).toArray := by rw [← hle]
    have hlf : left listed.toList = l.length - m := by
      rw [hle]
      have h1 : ∀ q, left (List.replicate q false) = q := by
        intro q
        induction q with
        | zero => rfl
        | succ q ih => simp only [List.replicate_succ, left, cond_false, ih]; omega
      have h2 : ∀ p (r : List Bool), left (List.replicate p true ++ r) = left r := by
        intro p r
        induction p with
        | zero => simp
        | succ p ih => simp only [List.replicate_succ, List.cons_append, left, cond_true, ih]; omega
      rw [h2, h1]
    obtain ⟨M', h1, h2, h3⟩ := hr.alike (s2 := ⟨s0.n, insAll (valsOf es) s0.tm, hpAll es s0.hp⟩) hcalm.n.symm (fun z => by
      show look z (hpAll es s0.hp) = _
      rcases hpAll_at (H := s0.hp) (z := z) (es := es) with ⟨p, hp, o, h1, h2⟩ | ⟨h1, h2⟩
      · obtain ⟨k, e⟩ := p
        have hlk := hk.mem hp
        rw [h2, hcalm.gotH k e z o (hall k (by rw [← hlen]; exact hk.lt hlk)) hlk h1]
      · rw [h2, hcalm.oldH z (fun j e _ hj => h1 (j, e) (mem_look hj))]) (fun t x hx => by
      rcases insAll_at (keys_vals hk) hx with ⟨j, hj⟩ | ⟨h1, h2⟩
      · rw [look_vals, Option.map_eq_some_iff] at hj
        obtain ⟨e, he, hee⟩ := hj
        cases hee
        exact hcalm.got j e (hall j (by rw [← hlen]; exact hk.lt he)) he
      · rw [hcalm.old t (fun j e _ hj => h2 j e.d e.v (by rw [look_vals, hj]; rfl))]
        exact h1)
    rw [← h2, hlf, hla]
    exact hq M' a (he.trans h3) h1
  have allReady : ∀ (listed : Array Bool) (s : St), Calm2 l s0 es listed s → Region.ready .any l.toArray listed = [] → ∀ j, j < m → listed.getD j false = true := by
    intro listed s hcalm hrd j
    induction j using Nat.strongRecOn with
    | ind j ih =>
      intro hjm
      have hj : j < l.length := by omega
      cases hb : listed.getD j false with
      | true => rfl
      | false =>
        exfalso
        have hjs : j < listed.size := by rw [hcalm.size]; exact hj
        have hmem : j ∈ Region.ready .any l.toArray listed := by
          rw [mem_ready]
          refine ⟨?_, l[j], by simp [hj], fun e he hbe => ?_⟩
          · rw [Array.getD_eq_getD_getElem?, Array.getElem?_eq_getElem hjs] at hb ⊢
            exact hb
          · have hin : e.on ∈ bindsOf l[j].after.toList := mem_bindsOf.2 ⟨e, by simpa using he, hbe, rfl⟩
            have := depsOk_at hdep j l[j] (List.getElem?_eq_getElem hj) _ hin
            exact ih e.on (by omega) (by omega)
        rw [hrd] at hmem; cases hmem
  have closedC : ∀ (listed : Array Bool) (s : St), Calm2 l s0 es listed s → ∀ j, j < l.length → (∀ o, l[j]? = some o → ∀ i ∈ bindsOf o.after.toList, listed.getD i false = true) → ∀ k ∈ clsAt cls j, listed.getD k false = true := by
    intro listed s hcalm j
    induction j using Nat.strongRecOn with
    | ind j ih =>
      intro hj hd k hk'
      have hjo : l[j]? = some l[j] := List.getElem?_eq_getElem hj
      have := clsOk_at hcl j l[j] hjo k (by rw [Nat.zero_add]; exact hk')
      rcases this with h | ⟨j', hj', h⟩
      · exact hd _ hjo k h
      · have hlt := depsOk_at hdep j l[j] hjo _ hj'
        rw [Nat.zero_add] at hlt
        have hl' := hd _ hjo j' hj'
        exact ih j' hlt (by omega) (fun o ho => hcalm.closed j' o hl' ho) k h
  have tailNo : ∀ (listed : Array Bool) (s : St), Calm2 l s0 es listed s → ∀ i ∈ Region.ready .any l.toArray listed, m ≤ i → ∀ j, j < m → listed.getD j false = true := by
    intro listed s hcalm i hi hmi j hj
    obtain ⟨_, o, ho, hdeps⟩ := mem_ready.1 hi
    have hil : i < l.length := by simpa using (Array.getElem?_eq_some_iff.1 ho).1
    have hio : l[i]? = some o := by simpa using ho
    refine closedC listed s hcalm i hil (fun q hq k hk' => ?_) j (htail i hmi hil j hj)
    rw [hio] at hq
    cases hq
    obtain ⟨e, he1, he2, rfl⟩ := mem_bindsOf.1 hk'
    exact hdeps e (by simpa using he1) he2
  intro fuel
  induction fuel with
  | zero =>
    intro listed s hleft hcalm hno M a he hr
    have hall : ∀ j, j < m → listed.getD j false = true := by
      intro j hj
      have hjs : j < listed.size := by rw [hcalm.size]; omega
      rw [Array.getD_eq_getD_getElem?, Array.getElem?_eq_getElem hjs]
      exact left_zero (l := listed.toList) hleft j _ (by rw [Array.getElem?_toList, Array.getElem?_eq_getElem hjs]; rfl)
    rw [← hleft]
    exact done listed s hcalm hno hall M a he hr
  | succ fuel ih =>
    intro listed s hleft hcalm hno M a he hr
    by_cases hall : ∀ j, j < m → listed.getD j false = true
    · rw [← hleft]
      exact done listed s hcalm hno hall M a he hr
    refine ⟨fun hrd => absurd (allReady listed s hcalm hrd) hall, fun i hi => ?_⟩
    have him : i < m := by
      rcases Nat.lt_or_ge i m with h | h
      · exact h
      · exact absurd (tailNo listed s hcalm i hi h) hall
    obtain ⟨h1, o, ho, hdeps⟩ := mem_ready.1 hi
    have hil : i < l.length := by simpa using (Array.getElem?_eq_some_iff.1 ho).1
    have hio : l[i]? = some o := by simpa using ho
    have his : i < listed.size := by rw [hcalm.size]; exact hil
    have hfalse : listed.getD i false = false := by
      rw [Array.getD_eq_getD_getElem?, Array.getElem?_eq_getElem his] at h1 ⊢
      exact h1
    have hdl : ∀ j ∈ bindsOf o.after.toList, listed.getD j false = true := by
      intro j hj
      obtain ⟨e, he1, he2, rfl⟩ := mem_bindsOf.1 hj
      exact hdeps e (by simpa using he1) he2
    have hcli : ∀ k ∈ clsAt cls i, listed.getD k false = true := closedC listed s hcalm i hil (fun q hq => by rw [hio] at hq; cases hq; exact hdl)
    have takeAt : ∀ j q, j < m → l[j]? = some q → (l.take m)[j]? = some q := fun j q hj hq => by rw [List.getElem?_take, if_pos hj]; exact hq
    have hlt := depsOk_at hdep i o hio
    obtain ⟨⟨d0, hd0, hdn⟩, hpair⟩ := calmP_at hok i o (takeAt i o him hio)
    rw [Nat.zero_add] at hlt hpair
    obtain ⟨d, cs, v, bs, ei, hd, hlook, hcs, hval, hvi, hvt⟩ := hops i o him hio
    rw [hd] at hd0
    have hdd : d = d0 := Option.some.inj hd0
    subst hdd
    have hdrop : l.drop i = o :: l.drop (i + 1) := by
      rw [List.drop_eq_getElem_cons hil]
      congr 1
      rw [List.getElem?_eq_getElem hil] at hio
      exact Option.some.inj hio
    have dstOf : ∀ j e, look j es = some e → ∃ q, j < m ∧ l[j]? = some q ∧ q.dst = some e.d := by
      intro j e hj
      have hjm : j < m := by rw [← hlen]; exact hk.lt hj
      have hjlen : j < l.length := by omega
      obtain ⟨dj, _, vj, bj, _, hdj, hlj, _⟩ := hops j l[j] hjm (List.getElem?_eq_getElem hjlen)
      rw [hj] at hlj
      cases hlj
      exact ⟨l[j], hjm, List.getElem?_eq_getElem hjlen, hdj⟩
    have hsub : ∀ t x, look t (pickSlots s0.tm (valsOf ei) (bindsOf o.after.toList) (usesOf l o)) = some x → look t s.tm = some x := by
      intro t x hx
      obtain ⟨hu, hx⟩ := pick_at hx
      rcases hx with hx | ⟨hx1, hx2⟩
      · obtain ⟨j, hj, hjv⟩ := depVal_some hx
        rw [look_vals, Option.map_eq_some_iff] at hjv
        obtain ⟨e, he', hee⟩ := hjv
        cases hee
        exact hcalm.got j e (hdl j hj) (hvi _ _ he')
      · rw [hcalm.old t ?_]
        · exact hx2
        · rintro j e hjl hjv rfl
          have hji : i ≠ j := by rintro rfl; rw [hfalse] at hjl; cases hjl
          obtain ⟨q, hjm, hjq, hdj⟩ := dstOf j e hjv
          obtain ⟨d'', hd'', hor, _⟩ := pairOk_at hpair j q (takeAt j q hjm hjq) (by omega)
          rw [Nat.zero_add] at hor
          rw [hdj] at hd''
          cases hd''
          rcases hor hu with hor | hor
          · obtain ⟨x', hx'⟩ := hvt j (hlt j hor)
            have := hvi _ _ hx'
            rw [hjv] at this
            cases this
            exact depVal_none hx1 j hor e.d e.v (by rw [look_vals, hx']; rfl) rfl
          · have := hcalm.closed j q hjl hjq i hor
            rw [hfalse] at this; cases this
    have hH : HSub (hpOf ei s0.hp (clsAt cls i)) s.hp := by
      intro z ob hz
      rcases hpOf_at hz with ⟨j, hj, e, he', hzb⟩ | hz
      · exact hcalm.gotH j e z ob (hcli j hj) (hvi _ _ he') hzb
      · rw [hcalm.oldH z ?_]
        · exact hz
        · intro j e hjl hj
          cases hzb : look z e.bs with
          | none => rfl
          | some o1 =>
            have := (hes.o j e z o1 hj hzb).2.1
            rw [this] at hz; cases hz
    refine calmVal2_sound (S := ⟨s0.n, pickSlots s0.tm (valsOf ei) (bindsOf o.after.toList) (usesOf l o), hpOf ei s0.hp (clsAt cls i)⟩) (s := s) hT hdrop hd (by rw [hcalm.n]; exact hdn) hval hcs hcalm.n.symm hH hsub hr fun M' a' s2 he' hr' hbh => ?_
    have hset : ∀ j, (listed.setIfInBounds i true).getD j false = (if j = i then true else listed.getD j false) := by
      intro j
      by_cases hji : j = i
      · subst hji
        rw [if_pos rfl, Array.getD_eq_getD_getElem?, Array.getElem?_setIfInBounds_self_of_lt his]; rfl
      · rw [if_neg hji, Array.getD_eq_getD_getElem?, Array.getElem?_setIfInBounds_ne (Ne.symm hji), ← Array.getD_eq_getD_getElem?]
    have hXn : ∀ z, bsX bs z = true → newX es z = true := fun z hz => newX_of hlook hz
    have hXo : ∀ j e, j ≠ i → listed.getD j false = true → look j es = some e → ∀ z, bsX bs z = true → otherX es j (clsAt cls j) z = true := by
      intro j e hji hjl hj z hz
      refine otherX_of hlook (Ne.symm hji) (fun hin => ?_) hz
      obtain ⟨q, _, hjq, _⟩ := dstOf j e hj
      have := closedC listed s hcalm j (by have := hk.lt hj; omega) (fun o' ho' => hcalm.closed j o' hjl ho') i hin
      rw [hfalse] at this; cases this
    refine ih (listed.setIfInBounds i true) s2 ?_ ⟨hbh.n.trans hcalm.n, by simp [hcalm.size], ?_, ?_, ?_, ?_, ?_⟩ (fun t ht => by rw [hset, if_neg (by omega)]; exact hno t ht) M' a' (he.trans he') hr'
    · have hlf : listed.toList[i]? = some false := by
        rw [Array.getElem?_toList, Array.getElem?_eq_getElem his]
        rw [Array.getD_eq_getD_getElem?, Array.getElem?_eq_getElem his] at hfalse
        exact congrArg some hfalse
      have := left_set hlf
      rw [Array.toList_setIfInBounds]
      omega
    · intro j e hjl hj
      rw [hset] at hjl
      rw [hbh.tm, look_ins]
      by_cases hji : j = i
      · subst hji
        rw [hlook] at hj
        cases hj
        rw [if_pos rfl]
      · rw [if_neg hji] at hjl
        obtain ⟨q, hjm, hjq, hdj⟩ := dstOf j e hj
        obtain ⟨d'', hd'', _, hne⟩ := pairOk_at hpair j q (takeAt j q hjm hjq) (by omega)
        rw [hdj] at hd''
        cases hd''
        rw [if_neg (hne d hd), look_mapV, hcalm.got j e hjl hj]
        simp only [Option.map_some]
        rw [refsA_clr (hXo j e hji hjl hj) (hes.v j e hj)]
    · intro t ht
      have htd : d ≠ t := ht i ⟨d, v, bs⟩ (by rw [hset, if_pos rfl]) hlook
      rw [hbh.tm, look_ins, if_neg (Ne.symm htd), look_mapV, hcalm.old t (fun j e hjl hj => ht j e (by rw [hset]; split; rfl; exact hjl) hj)]
      cases hl0 : look t s0.tm with
      | none => rfl
      | some w =>
        simp only [Option.map_some]
        rw [refsA_clr hXn (hes.tm t w hl0)]
    · intro j e z ob hjl hj hz
      rw [hset] at hjl
      by_cases hji : j = i
      · subst hji
        rw [hlook] at hj
        cases hj
        exact hbh.new z ob hz
      · rw [if_neg hji] at hjl
        have hnone : look z bs = none := (hes.o j e z ob hj hz).2.2 i ⟨d, v, bs⟩ hlook (Ne.symm hji)
        rw [hbh.old z hnone, hcalm.gotH j e z ob hjl hj hz]
        simp only [Option.map_some]
        rw [refsO_clr (hXo j e hji hjl hj) (hes.o j e z ob hj hz).1]
    · intro z hz
      have hnone : look z bs = none := hz i ⟨d, v, bs⟩ (by rw [hset, if_pos rfl]) hlook
      rw [hbh.old z hnone, hcalm.oldH z (fun j e hjl hj => hz j e (by rw [hset]; split; rfl; exact hjl) hj)]
      cases hl0 : look z s0.hp with
      | none => rfl
      | some w =>
        simp only [Option.map_some]
        rw [refsO_clr hXn (hes.hp z w hl0)]
    · intro j q hjl hjq i' hi'
      rw [hset] at hjl ⊢
      split
      · rfl
      · by_cases hji : j = i
        · subst hji
          rw [hio] at hjq
          cases hjq
          exact hdl i' hi'
        · rw [if_neg hji] at hjl
          exact hcalm.closed j q hjl hjq i' hi'
def tailOk (cls : List (List Nat)) (m : Nat) : Nat → Nat → Bool
  | _, 0 => true
  | t, k + 1 => (List.range m).all (fun j => hasN j (clsAt cls t)) && tailOk cls m (t + 1) k
theorem tailOk_at {cls : List (List Nat)} {m : Nat} : ∀ {k t0 : Nat}, tailOk cls m t0 k = true → ∀ t, t0 ≤ t → t < t0 + k → ∀ j, j < m → j ∈ clsAt cls t
  | 0, t0, _, t, h1, h2, _, _ => by omega
  | k + 1, t0, h, t, h1, h2, j, hj => by
    unfold tailOk at h
    simp only [Bool.and_eq_true] at h
    by_cases ht : t = t0
    · subst ht
      exact hasN_mem.1 (List.all_eq_true.1 h.1 j (List.mem_range.2 hj))
    · exact tailOk_at h.2 t (by omega) (by omega) j hj
def calmCut2 (P : Program) (T : Nat → Option TI) (tab : Tab) (lent : Bool) (l : List Oper) (cls : List (List Nat)) (m : Nat) (ks hs : List Nat) (s : St) : Option (Bool × List (Nat × List Prop) × List Leaf) :=
  match run2 P T tab lent l cls s (l.take m) 0 [] with
  | some (cds, es) => (match explore P T tab lent l (l.length - m) (List.replicate m true ++ List.replicate (l.length - m) false).toArray [] ⟨s.n, insAll (valsOf es) s.tm, hpAll es s.hp⟩ with
    | some ls => some (entsOk cls s es, cds, ls.map fun y => (y.1, cutS ks hs y.2))
    | none => none)
  | none => none
theorem awp_calm2 {P : Program} {T : Nat → Option TI} {K : Post} {s : St} {id : Nat} {l : List Oper} (tab : Tab) (lent : Bool) (cls : List (List Nat)) (m : Nat) (ks hs : List Nat) (cds cd2 : List (Nat × List Prop)) (n : Nat) (s' : St) (hm : P.follows .mixedOrders = true) (hsel : Region.noSelect l.toArray = true) (hT : ∀ t i, T t = some i → TF P t i)
    (hok : (Nat.ble m l.length && (depsOk 0 l && calmP l (l.take m) s.n 0 (l.take m)) && clsOk l cls 0 l && tailOk cls m m (l.length - m)) = true) (h : calmCut2 P T tab lent l cls m ks hs s = some (true, cds, List.replicate n (cd2, s'))) (hc : AllC cds) (hc2 : AllC cd2) (hk : K .normal s') : AWp P (.region id l.toArray true) K s := ⟨fun M0 M a he hr => by
  simp only [Bool.and_eq_true] at hok
  obtain ⟨⟨⟨hml, hdep, hok1⟩, hok2⟩, hok3⟩ := hok
  have hml := Nat.le_of_ble_eq_true hml
  unfold calmCut2 at h
  split at h
  · rename_i cds1 es hrun
    split at h
    · rename_i ls hls
      simp only [Option.some.injEq, Prod.mk.injEq] at h
      obtain ⟨hes, rfl, hlv⟩ := h
      obtain ⟨h1, h2, _, h4⟩ := run2_at (l.take m) [] trivial hrun hc
      have hleaf : ∀ y ∈ ls, AllC y.1 ∧ ∀ M a, Ext big M0 M → Rel M y.2 a → Qc K M0 .normal a M.w := by
        intro y hy
        have hmem : (y.1, cutS ks hs y.2) ∈ List.replicate n (cd2, s') := by
          rw [← hlv]
          exact List.mem_map_of_mem (f := fun y : Leaf => (y.1, cutS ks hs y.2)) hy
        have heq := List.eq_of_mem_replicate hmem
        simp only [Prod.mk.injEq] at heq
        refine ⟨by rw [heq.1]; exact hc2, fun M a he hr => ?_⟩
        obtain ⟨M', h3, h4, h5⟩ := awk_cut ks hs y.2 M a hr
        rw [heq.2] at h3
        exact ⟨s', M', hk, h3, h4, he.trans h5⟩
      have hall := calm_any2 (M0 := M0) (Q := Qc K M0) hT hml h1 (by rw [h2]; simp; omega) (fun k o hkm hko => by
          have := h4 k o (by rw [List.getElem?_take, if_pos hkm]; exact hko)
          rwa [List.length_nil, Nat.zero_add] at this) hdep hok1 hok2 (entsOk_all hes) (fun t ht1 ht2 j hj => tailOk_at hok3 t ht1 (by omega) j hj)
        (fun M a he hr => explore_sound (M0 := M0) (Q := Qc K M0) hT hsel (l.length - m) _ [] _ ls hls hleaf M a he hr)
        l.length (Array.replicate l.length false) s (by
          have : ∀ n, left (List.replicate n false) = n := by
            intro n
            induction n with
            | zero => rfl
            | succ n ih => simp only [List.replicate_succ, left, cond_false, ih]; omega
          rw [Array.toList_replicate, this])
        (by
          have no : ∀ j, (Array.replicate l.length false).getD j false = true → False := fun j hj => by simp [Array.getD_eq_getD_getElem?, Array.getElem?_replicate] at hj; split at hj <;> simp at hj
          exact ⟨rfl, by simp, fun j e hj => (no j hj).elim, fun t _ => rfl, fun j e z o hj => (no j hj).elim, fun z _ => rfl, fun j o hj => (no j hj).elim⟩)
        (fun t _ => by simp [Array.getD_eq_getD_getElem?, Array.getElem?_replicate]; split <;> rfl)
        M.drawn a (he.trans ((drawn_ext M).mono fun x hx => by cases hx)) (drawn_rel hr)
      refine wp_mono (wp_region_any (Q := QN (Qc K M0)) hm (by simp only [List.size_toArray]; exact hall)) fun e a w hq => ?_
      obtain ⟨rfl, hq⟩ := hq
      exact hq
    · cases h
  · cases h⟩
end Go.Ab
namespace Go.Ab
open Go
end Go.Ab
namespace Go.Ab
open Go
section
variable {P : Program} {T : Nat → Option TI} {K : Post} {s : St}
structure AAny (P : Program) (l : List Oper) (K : Post) (n : Nat) (listed : Array Bool) (s : St) : Prop where
  run : ∀ (M0 M : Mem) (a : Act), Ext big M0 M → Rel M s a → wpAny P .any l.toArray (QN (Qc K M0)) n listed a M.w
def calmCut3 (P : Program) (T : Nat → Option TI) (tab : Tab) (lent : Bool) (l : List Oper) (cls : List (List Nat)) (m : Nat) (ks hs : List Nat) (s : St) : Option (Bool × List (Nat × List Prop) × St) :=
  match run2 P T tab lent l cls s (l.take m) 0 [] with
  | some (cds, es) => some (entsOk cls s es, cds, cutS ks hs ⟨s.n, insAll (valsOf es) s.tm, hpAll es s.hp⟩)
  | none => none
theorem aany_weak {l : List Oper} {n : Nat} {listed : Array Bool} {s' : St} (hw : AWk s s') (hk : AAny P l K n listed s') : AAny P l K n listed s := ⟨fun M0 M a he hr => by
  obtain ⟨M', h1, h2, h3⟩ := hw M a hr
  rw [← h2]
  exact hk.run M0 M' a (he.trans h3) h1⟩
theorem awp_calm3 {id : Nat} {l : List Oper} (tab : Tab) (lent : Bool) (cls : List (List Nat)) (m n : Nat) (L : Array Bool) (ks hs : List Nat) (cds : List (Nat × List Prop)) (s' : St) (hm : P.follows .mixedOrders = true) (hT : ∀ t i, T t = some i → TF P t i)
    (hok : (Nat.ble m l.length && (depsOk 0 l && calmP l (l.take m) s.n 0 (l.take m)) && clsOk l cls 0 l && tailOk cls m m (l.length - m)) = true) (h : calmCut3 P T tab lent l cls m ks hs s = some (true, cds, s'))
    (hn : l.length - m = n) (hL : (List.replicate m true ++ List.replicate n false).toArray = L) (hc : AllC cds) (hk : AAny P l K n L s') : AWp P (.region id l.toArray true) K s := ⟨fun M0 M a he hr => by
  subst hn
  subst hL
  simp only [Bool.and_eq_true] at hok
  obtain ⟨⟨⟨hml, hdep, hok1⟩, hok2⟩, hok3⟩ := hok
  have hml := Nat.le_of_ble_eq_true hml
  unfold calmCut3 at h
  split at h
  · rename_i cds1 es hrun
    simp only [Option.some.injEq, Prod.mk.injEq] at h
    obtain ⟨hes, rfl, rfl⟩ := h
    obtain ⟨h1, h2, _, h4⟩ := run2_at (l.take m) [] trivial hrun hc
    have hall := calm_any2 (M0 := M0) (Q := Qc K M0) hT hml h1 (by rw [h2]; simp; omega) (fun k o hkm hko => by
        have := h4 k o (by rw [List.getElem?_take, if_pos hkm]; exact hko)
        rwa [List.length_nil, Nat.zero_add] at this) hdep hok1 hok2 (entsOk_all hes) (fun t ht1 ht2 j hj => tailOk_at hok3 t ht1 (by omega) j hj)
      (fun M a he hr => (aany_weak (awk_cut ks hs _) hk).run M0 M a he hr)
      l.length (Array.replicate l.length false) s (by
        have : ∀ n, left (List.replicate n false) = n := by
          intro n
          induction n with
          | zero => rfl
          | succ n ih => simp only [List.replicate_succ, left, cond_false, ih]; omega
        rw [Array.toList_replicate, this])
      (by
        have no : ∀ j, (Array.replicate l.length false).getD j false = true → False := fun j hj => by simp [Array.getD_eq_getD_getElem?, Array.getElem?_replicate] at hj; split at hj <;> simp at hj
        exact ⟨rfl, by simp, fun j e hj => (no j hj).elim, fun t _ => rfl, fun j e z o hj => (no j hj).elim, fun z _ => rfl, fun j o hj => (no j hj).elim⟩)
      (fun t _ => by simp [Array.getD_eq_getD_getElem?, Array.getElem?_replicate]; split <;> rfl)
      M.drawn a (he.trans ((drawn_ext M).mono fun x hx => by cases hx)) (drawn_rel hr)
    refine wp_mono (wp_region_any (Q := QN (Qc K M0)) hm (by simp only [List.size_toArray]; exact hall)) fun e a w hq => ?_
    obtain ⟨rfl, hq⟩ := hq
    exact hq
  · cases h⟩
def endCut (P : Program) (T : Nat → Option TI) (tab : Tab) (lent : Bool) (l : List Oper) (n : Nat) (listed : Array Bool) (ks hs : List Nat) (s : St) : Option (List Leaf) :=
  match explore P T tab lent l n listed [] s with
  | some ls => some (ls.map fun y => (y.1, cutS ks hs y.2))
  | none => none
theorem aany_end {l : List Oper} {n : Nat} {listed : Array Bool} (tab : Tab) (lent : Bool) (ks hs : List Nat) (q : Nat) (cs : List (Nat × List Prop)) (s' : St) (hsel : Region.noSelect l.toArray = true) (hT : ∀ t i, T t = some i → TF P t i) (h : endCut P T tab lent l n listed ks hs s = some (List.replicate q (cs, s'))) (hc : AllC cs) (hk : K .normal s') :
    AAny P l K n listed s := ⟨fun M0 M a he hr => by
  unfold endCut at h
  split at h
  · rename_i ls hls
    simp only [Option.some.injEq] at h
    refine explore_sound (M0 := M0) (Q := Qc K M0) hT hsel n _ [] s ls hls (fun y hy => ?_) M a he hr
    have hmem : (y.1, cutS ks hs y.2) ∈ List.replicate q (cs, s') := by
      rw [← h]
      exact List.mem_map_of_mem (f := fun y : Leaf => (y.1, cutS ks hs y.2)) hy
    have heq := List.eq_of_mem_replicate hmem
    simp only [Prod.mk.injEq] at heq
    refine ⟨by rw [heq.1]; exact hc, fun M a he hr => ?_⟩
    obtain ⟨M', h3, h4, h5⟩ := awk_cut ks hs y.2 M a hr
    rw [heq.2] at h3
    exact ⟨s', M', hk, h3, h4, he.trans h5⟩
  · cases h⟩
end
end Go.Ab
namespace Go.Ab
open Go
theorem awk_mat (id : Nat) (xss : List (List Int)) (s : St) (h : look id s.hp = some (.recs (.rows xss))) (he : ∀ i, xss.getD i [] = []) (hs : strictId id = false := by rfl) : AWk s ⟨s.n, s.tm, ins id (.mat id xss) s.hp⟩ := fun M a hr => by
  have hM := hr.ok
  rw [← hr.hp] at h
  let M' : Mem := ⟨fun k => if k.1 = id ∧ k.2 ≠ none then none else M.μ k, ins id (.mat id xss) s.hp, M.w, M.free⟩
  have hμ0 : ∀ k : Key, k.1 ≠ id → M'.μ k = M.μ k := fun k hk => by show (if k.1 = id ∧ k.2 ≠ none then none else M.μ k) = _; rw [if_neg (fun h => hk h.1)]
  have hμ1 : M'.μ (id, none) = M.μ (id, none) := by show (if id = id ∧ (none : Option Nat) ≠ none then none else M.μ (id, none)) = _; rw [if_neg (fun h => h.2 rfl)]
  have hμ2 : ∀ i, M'.μ (id, some i) = none := fun i => by show (if id = id ∧ some i ≠ none then none else M.μ (id, some i)) = _; rw [if_pos ⟨rfl, by simp⟩]
  have hlk0 : ∀ k : Key, k.1 ≠ id → lk M'.H k = lk M.H k := fun k hk => by show lk (ins id (.mat id xss) s.hp) k = _; rw [lk_ins_ne hk, hr.hp]
  have hlk1 : lk M'.H (id, none) = some (.mat id xss) := lk_ins_self _ _ _
  have hlk2 : ∀ i o, lk M'.H (id, some i) = some o → o = .flat (.ints .i64 []) := fun i o ho => by
    obtain ⟨_, xs2, h2, h3, rfl⟩ := lk_row ho
    have h2' : look id (ins id (.mat id xss) s.hp) = some (.mat _ xs2) := h2
    rw [look_ins_same] at h2'
    cases h2'
    rw [he i]
  have hold : ∀ i o, lk M.H (id, some i) = some o → False := fun i o ho => lk_plain h rfl ho
  have hlive : ∀ b, M'.live b → M.live b := by
    rintro b ⟨⟨x, r⟩, o, p, h1, h2⟩
    by_cases hx : x = id
    · subst hx
      cases r with
      | none => exact ⟨(x, none), _, p, h, by rw [← hμ1]; exact h2⟩
      | some i => rw [hμ2] at h2; cases h2
    · exact ⟨(x, r), o, p, by rw [← hlk0 _ hx]; exact h1, by rw [← hμ0 _ hx]; exact h2⟩
  have hext : Ext noX M M' := by
    refine ⟨⟨rfl, rfl, rfl, Nat.le_refl _, Nat.le_refl _, fun b _ hl => ⟨rfl, fun h => hl (hlive b h)⟩, fun b h => h, fun b h => .inl h⟩, fun x o _ hx => ?_⟩
    by_cases hxi : x.1 = id
    · obtain ⟨x1, r⟩ := x
      simp only at hxi
      subst hxi
      cases r with
      | none =>
        rw [lk_none, h] at hx
        cases hx
        exact ⟨_, hlk1, rfl, Nat.le_refl _, hμ1, fun b p cur e _ hc => ⟨cur, hc, rfl⟩⟩
      | some i => exact (hold i o hx).elim
    · exact ⟨o, by rw [hlk0 x hxi]; exact hx, rfl, Nat.le_refl _, hμ0 x hxi, fun b p cur e _ hc => ⟨cur, hc, rfl⟩⟩
  refine ⟨M', ⟨rfl, ?_, hr.defers, hr.size, fun d v hd => ?_⟩, rfl, hext.mono (fun x hx => by cases hx)⟩
  · refine ⟨(show Named s.hp by rw [← hr.hp]; exact hM.named).ins (fun _ _ h => by cases h; rfl), fun b hb => ⟨(hM.fr b hb).1, fun h => (hM.fr b hb).2 (hlive b h)⟩, fun x y o1 o2 b p q hx hy hmx hmy => ?_, fun x o1 hx hm => ?_, fun x o1 b p hx hm => ?_⟩
    · have back : ∀ (x : Key) o b p, lk M'.H x = some o → M'.μ x = some (b, p) → ∃ o1, lk M.H x = some o1 ∧ M.μ x = some (b, p) := by
        intro x o b p hx hm
        by_cases hxi : x.1 = id
        · obtain ⟨x1, r⟩ := x
          simp only at hxi
          subst hxi
          cases r with
          | none => exact ⟨_, h, by rw [← hμ1]; exact hm⟩
          | some i => rw [hμ2] at hm; cases hm
        · exact ⟨o, by rw [← hlk0 x hxi]; exact hx, by rw [← hμ0 x hxi]; exact hm⟩
      obtain ⟨a1, k1, k2⟩ := back x o1 b p hx hmx
      obtain ⟨a2, k3, k4⟩ := back y o2 b q hy hmy
      exact hM.inj x y a1 a2 b p q k1 k3 k2 k4
    · by_cases hxi : x.1 = id
      · obtain ⟨x1, r⟩ := x
        simp only at hxi
        subst hxi
        cases r with
        | none =>
          rw [hlk1] at hx
          cases hx
          exact hM.none_ (x1, none) (.recs (.rows xss)) h (by rw [← hμ1]; exact hm)
        | some i => rw [hlk2 i o1 hx]; rfl
      · exact hM.none_ x o1 (by rw [← hlk0 x hxi]; exact hx) (by rw [← hμ0 x hxi]; exact hm)
    · by_cases hxi : x.1 = id
      · obtain ⟨x1, r⟩ := x
        simp only at hxi
        subst hxi
        cases r with
        | none =>
          rw [hlk1] at hx
          cases hx
          obtain ⟨cur, e, g1, g2, g3⟩ := hM.obj (x1, none) _ b p h (by rw [← hμ1]; exact hm)
          refine ⟨cur, e, g1, g2, fun i hi j hj => ?_⟩
          obtain ⟨u, k1, k2, k3⟩ := g3 i hi j hj
          refine ⟨u, k1, k2, ?_⟩
          have k3' : M.roSl (C0.ints .i64 (xss.getD i [])).len _ _ u := k3
          obtain ⟨A, cap, rfl, q1, q2, _⟩ := k3'
          show M'.keyRow (x1, some i) (xss.getD i []).length _
          have hi' : i < xss.length := hi
          refine ⟨_, lk_of_row (look_ins_same _ _ _) hi', Nat.le_refl _, .inl ⟨by rw [he i]; rfl, A, cap, ?_, q2, fun h => by rw [hs] at h; cases h⟩⟩
          have : (C0.ints .i64 (xss.getD i [])).len = 0 := by rw [he i]; rfl
          rw [this]
        | some i => rw [hμ2] at hm; cases hm
      · obtain ⟨cur, e, g1, g2, g3⟩ := hM.obj x o1 b p (by rw [← hlk0 x hxi]; exact hx) (by rw [← hμ0 x hxi]; exact hm)
        refine ⟨cur, e, g1, g2, fun i hi j hj => ?_⟩
        obtain ⟨u, k1, k2, k3⟩ := g3 i hi j hj
        exact ⟨u, k1, k2, VR_ext0 hext k3⟩
  · obtain ⟨u, hu, hv⟩ := hr.tm d v hd
    exact ⟨u, hu, AVR_ext0 hext hv⟩
def matV (id : Nat) (xss : List (List Int)) : V1 → V1
  | .rw x off len => cond (Nat.beq x id) (.rs ((C1.rows xss).sub off (nadd off len))) (.rw x off len)
  | .ptr x i j => cond (Nat.beq x id) .any (.ptr x i j)
  | .mrow x i len => cond (Nat.beq x id) (.ro ((C0.ints .i64 (xss.getD i [])).sub 0 len)) (.mrow x i len)
  | .mptr x i j => cond (Nat.beq x id) .any (.mptr x i j)
  | v => v
def sealM (id : Nat) (s : St) : Option St :=
  match look id s.hp with
  | some (.mat _ xss) => cond (big id) (some ⟨s.n, mapV (liftA (matV id xss)) s.tm, mapV (liftO (matV id xss)) (del id s.hp)⟩) none
  | _ => none
theorem matV_low (id : Nat) (xss : List (List Int)) (v : V1) (h : v.low = true) (_ : noFn v = true) : matV id xss v = v := by cases v <;> first | rfl | cases h
theorem liftO_cellM {f : V1 → V1} {M M' : Mem} (h : Turns f M M') (hf : ∀ v : V1, v.low = true → noFn v = true → f v = v) {o : Obj} (hfm : ∀ x xss, o = .mat x xss → ∀ i n, f (.mrow x i n) = .mrow x i n) {i j : Nat} {u : Value} (hi : VR M (o.cell i j) u) : VR M' ((liftO f o).cell i j) u := by
  cases hp : o.plain
  · cases o <;> first | (cases hp; done) | skip
    rename_i x xss
    have := VR_lift h hi
    simp only [Obj.cell, liftV, hfm x xss rfl] at this
    exact this
  · exact liftO_cellP hp h hf hi
theorem awk_sealmat (id : Nat) {s s' : St} (h : sealM id s = some s') : AWk s s' := fun M a hr => by
  unfold sealM at h
  split at h
  · rename_i id' xss ho
    cases hbig : big id
    · rw [hbig] at h; cases h
    · rw [hbig] at h
      simp only [cond_true, Option.some.injEq] at h
      subst h
      rw [← hr.hp] at ho
      have hM := hr.ok
      have := hM.named _ _ _ ho
      subst this
      let f := matV id' xss
      let M' : Mem := ⟨M.μ, mapV (liftO f) (del id' s.hp), M.w, fun b => M.free b ∨ ∃ (r : Option Nat) (o : Obj) (p : Nat), lk M.H (id', r) = some o ∧ M.μ (id', r) = some (b, p)⟩
      have hlk : ∀ (x : Key) o', lk M'.H x = some o' → x.1 ≠ id' ∧ ∃ o1, lk M.H x = some o1 ∧ o' = liftO f o1 := by
        intro x o' h
        have h' : lk (mapV (liftO f) (del id' s.hp)) x = some o' := h
        rw [lk_lift, Option.map_eq_some_iff] at h'
        obtain ⟨o1, h1, rfl⟩ := h'
        by_cases hx : x.1 = id'
        · obtain ⟨x1, r⟩ := x
          simp only at hx
          subst hx
          rw [lk_del_self] at h1; cases h1
        · rw [lk_del_ne hx] at h1
          exact ⟨hx, o1, by rw [hr.hp]; exact h1, rfl⟩
      have hlk' : ∀ (x : Key) o1, x.1 ≠ id' → lk M.H x = some o1 → lk M'.H x = some (liftO f o1) := by
        intro x o1 hx h1
        show lk (mapV (liftO f) (del id' s.hp)) x = _
        rw [lk_lift, lk_del_ne hx, ← hr.hp, h1]; rfl
      have hlive : ∀ b, M'.live b → M.live b := by
        rintro b ⟨x, o', p, h1, h2⟩
        obtain ⟨_, o1, h3, _⟩ := hlk x o' h1
        exact ⟨x, o1, p, h3, h2⟩
      have hdead : ∀ r o b p, lk M.H (id', r) = some o → M.μ (id', r) = some (b, p) → ¬ M'.live b := by
        rintro r o b p hl hm ⟨x, o', q, h1, h2⟩
        obtain ⟨hx, o1, h3, _⟩ := hlk x o' h1
        exact hx (congrArg Prod.fst (hM.inj x (id', r) o1 o b q p h3 hl h2 hm))
      have hkeep : Keep M M' := ⟨rfl, rfl, rfl, Nat.le_refl _, Nat.le_refl _, fun b _ hl => ⟨rfl, fun h => hl (hlive b h)⟩, fun b h => .inl h, fun b h => by
        rcases h with h | ⟨r, o, p, h1, h2⟩
        · exact .inl h
        · exact .inr (.inl ⟨(id', r), o, p, h1, h2⟩)⟩
      have hrow : ∀ r o b p, lk M.H (id', r) = some o → M.μ (id', r) = some (b, p) → M'.rowAt o.len o.sz (fun i j u => VR M (o.cell i j) u) b p := by
        intro r o b p hl hm
        obtain ⟨cur, e, g1, g2, g3⟩ := hM.obj (id', r) o b p hl hm
        refine ⟨⟨.inr ⟨r, o, p, hl, hm⟩, hdead r o b p hl hm⟩, fun i hi j hj => ?_⟩
        obtain ⟨u, k1, k2, k3⟩ := g3 i hi j hj
        exact ⟨u, (cell_of_row _ _ _ _ _ _ g1).trans k1, k3⟩
      have hmrow : ∀ i len u, M.keyRow (id', some i) len u → VF M' (.ro ((C0.ints .i64 (xss.getD i [])).sub 0 len)) u := by
        rintro i len u ⟨o, hl, h2, h3⟩
        obtain ⟨_, xs2, k1, k2, rfl⟩ := lk_row hl
        rw [ho] at k1; cases k1
        have h2' : len ≤ (C0.ints .i64 (xss.getD i [])).len := h2
        have hlen := C0.sub_len (C0.ints .i64 (xss.getD i [])) 0 len h2'
        show M'.roSl ((C0.ints .i64 (xss.getD i [])).sub 0 len).len ((C0.ints .i64 (xss.getD i [])).sub 0 len).sz _ u
        rw [hlen, C0.sub_sz, Nat.sub_zero]
        rcases h3 with ⟨h3, A, cap, rfl, hcap, _⟩ | ⟨b, p, cap, hm, rfl, g1, g2, _⟩
        · subst h3
          exact ⟨A, cap, rfl, Nat.zero_le _, hcap, .inl rfl⟩
        · refine roSl_sub (off := 0) (hrow (some i) _ b p hl hm) (by rw [Nat.zero_mul, Nat.add_zero]) (by rw [Nat.zero_add]; exact h2) g1 g2 fun a j u hi hu => ?_
          simp only [C0.sub_cell (C0.ints .i64 (xss.getD i [])) 0 len a j (by omega)]
          exact C0_cell_back hu
      have hturn : Turns f M M' := by
        intro v u hn hv
        have hnf : noFn (f v) = true := by
          cases v <;> first | rfl | (cases hn; done) | skip
          all_goals (simp only [f, matV]; cases Nat.beq _ id' <;> rfl)
        refine ⟨hnf, ?_⟩
        by_cases hlow : v.low = true
        · rw [show f v = v from matV_low id' xss v hlow hn, VM_low hlow]
          rw [VM_low hlow] at hv
          exact VF_keep hkeep hv
        · cases v <;> first | exact absurd rfl hlow | skip
          case ptr x i j =>
            simp only [f, matV]
            by_cases hx : x = id'
            · subst hx
              rw [beq_self]
              exact VM_oneCell hv
            · rw [beq_ne hx]
              obtain ⟨o1, b, p, h1, h2, rfl⟩ := hv
              exact ⟨_, b, p, hlk' (x, none) o1 hx h1, h2, by rw [liftO_sz]⟩
          case mptr x i j =>
            simp only [f, matV]
            by_cases hx : x = id'
            · subst hx
              rw [beq_self]
              exact VM_oneCell hv
            · rw [beq_ne hx]
              obtain ⟨o1, b, p, h1, h2, rfl⟩ := hv
              exact ⟨_, b, p, hlk' (x, some i) o1 hx h1, h2, by rw [liftO_sz]⟩
          case mrow x i len =>
            simp only [f, matV]
            by_cases hx : x = id'
            · subst hx
              rw [beq_self]
              exact hmrow i len u hv
            · rw [beq_ne hx]
              obtain ⟨o1, h1, h2, h3⟩ := hv
              exact ⟨_, hlk' (x, some i) o1 hx h1, by rw [liftO_len]; exact h2, h3⟩
          case rw x off len =>
            simp only [f, matV]
            by_cases hx : x = id'
            · subst hx
              rw [beq_self]
              obtain ⟨o1, h1, h2, h3⟩ := hv
              rw [lk_none, ho] at h1
              cases h1
              simp only [nadd_eq, cond_true]
              have h2' : off + len ≤ (C1.rows xss).len := h2
              have hlen := C1.sub_len (C1.rows xss) off (off + len) h2'
              have e1 : off + len - off = len := by omega
              rw [e1] at hlen
              show M'.roSl ((C1.rows xss).sub off (off + len)).len ((C1.rows xss).sub off (off + len)).sz _ u
              rw [hlen, C1.sub_sz]
              rcases h3 with ⟨h3, A, rfl⟩ | ⟨b, p, a, cap, hm, rfl, k1, k2, k3, _⟩
              · subst h3
                exact ⟨A, 0, rfl, Nat.le_refl _, Nat.zero_le _, .inl rfl⟩
              · refine roSl_sub (hrow none _ b p ho hm) k3 h2 k1 k2 fun i j u hi2 hu => ?_
                simp only [C1.sub_cell (C1.rows xss) off (off + len) i j (by omega)]
                have q1 := hmrow (off + i) _ u hu
                have e2 : (C0.ints .i64 (xss.getD (off + i) [])).sub 0 (xss.getD (off + i) []).length = .ints .i64 (xss.getD (off + i) []) := by simp [C0.sub]
                rw [e2] at q1
                exact q1
            · rw [beq_ne hx]
              obtain ⟨o1, h1, h2, h3⟩ := hv
              refine ⟨_, hlk' (x, none) o1 hx h1, by rw [liftO_len]; exact h2, ?_⟩
              rw [liftO_sz]
              exact h3
          case rs c => exact roSl_mono hkeep c.sz_pos (fun _ _ _ h => VF_keep hkeep h) hv
          case rq c i j => exact roPt_mono hkeep (fun _ _ _ h => VF_keep hkeep h) hv
      refine ⟨M', ⟨rfl, ?_, hr.defers, hr.size, fun d v hd => ?_⟩, rfl, ⟨hkeep, fun x o1 hx h1 => ?_⟩⟩
      · refine ⟨((show Named s.hp by rw [← hr.hp]; exact hM.named).del id').lift _, fun b hb => ?_, fun x y o1 o2 b p q hx hy hmx hmy => ?_, fun x o1 hx hm => ?_, fun x o1 b p hx hm => ?_⟩
        · rcases hb with hb | ⟨r, o, p, hl, hm⟩
          · exact ⟨(hM.fr b hb).1, fun h => (hM.fr b hb).2 (hlive b h)⟩
          · obtain ⟨cur, e, g1, _⟩ := hM.obj (id', r) o b p hl hm
            exact ⟨(Array.getElem?_eq_some_iff.1 g1).1, hdead r o b p hl hm⟩
        · obtain ⟨_, a1, h1, _⟩ := hlk x o1 hx
          obtain ⟨_, a2, h2, _⟩ := hlk y o2 hy
          exact hM.inj x y a1 a2 b p q h1 h2 hmx hmy
        · obtain ⟨_, a1, h1, rfl⟩ := hlk x o1 hx
          rw [liftO_len]; exact hM.none_ x a1 h1 hm
        · obtain ⟨hxi, a1, h1, rfl⟩ := hlk x o1 hx
          obtain ⟨cur, e, g1, g2, g3⟩ := hM.obj x a1 b p h1 hm
          refine ⟨cur, e, g1, by rw [liftO_len, liftO_sz]; exact g2, fun i hi j hj => ?_⟩
          rw [liftO_len] at hi
          rw [liftO_sz] at hj ⊢
          obtain ⟨u, k1, k2, k3⟩ := g3 i hi j hj
          refine ⟨u, k1, k2, liftO_cellM hturn (matV_low id' xss) (fun y ys hy i n => ?_) k3⟩
          have hyx : y ≠ id' := by
            subst hy
            obtain ⟨x1, r⟩ := x
            cases r with
            | none => have := hM.named x1 y ys h1; subst this; exact hxi
            | some i => obtain ⟨_, _, _, _, h5⟩ := lk_row h1; cases h5
          show matV id' xss (.mrow y i n) = _
          simp only [matV, beq_ne hyx, cond_false]
      · have hd' : look d (mapV (liftA f) s.tm) = some v := hd
        rw [look_mapV, Option.map_eq_some_iff] at hd'
        obtain ⟨v0, h0, rfl⟩ := hd'
        obtain ⟨u, hu, hv⟩ := hr.tm d v0 h0
        exact ⟨u, hu, AVR_lift hturn hv⟩
      · have hxi : x.1 ≠ id' := by
          intro e
          rw [e, hbig] at hx; cases hx
        exact ⟨_, hlk' x o1 hxi h1, liftO_sz _ _, by rw [liftO_len]; exact Nat.le_refl _, rfl, fun b p cur e _ hc => ⟨cur, hc, rfl⟩⟩
  · cases h
end Go.Ab
namespace Go.Ab
open Go
def dropV (A R : Nat) : V1 → V1
  | .rw x off len => cond (Nat.beq x R) .any (.rw x off len)
  | .ptr x i j => cond (Nat.beq x R) .any (.ptr x i j)
  | .mrow x i len => cond (Nat.beq x A) .any (.mrow x i len)
  | .mptr x i j => cond (Nat.beq x A) .any (.mptr x i j)
  | v => v
theorem dropV_low (A R : Nat) (v : V1) (h : v.low = true) (_ : noFn v = true) : dropV A R v = v := by cases v <;> first | rfl | cases h
def absorbH (A R i : Nat) (xss : List (List Int)) (ys : List Int) (hp : Heap) : Heap := ins A (.mat A (xss.set i ys)) (mapV (liftO (dropV A R)) (del R hp))
theorem absorb_sound {P : Program} {T : Nat → Option TI} {s : St} {M : Mem} {a : Act} {o : Oper} {t : TypeId} {ti : TI} {x y : Operand} {A R i n : Nat} {xss : List (List Int)} {ys : List Int} (hT : ∀ t i, T t = some i → TF P t i) (hr : Rel M s a)
    (ho : o.op = .store t x y) (hti : T t = some ti) (hsz1 : ti.sz = 1) (hx : s.raw x = some (.one (.ptr A i 0))) (hy : s.raw y = some (.one (.rw R 0 n))) (hA : look A s.hp = some (.mat A xss)) (hR : look R s.hp = some (.flat (.ints .i64 ys)))
    (hi : i < xss.length) (hn : n = ys.length) (hbA : big A = true) (hbR : big R = true) :
    ∃ M' : Mem, (execOp a.eval o).run P M.w = .ok .skip M'.w ∧ Ext big M M' ∧ Rel M' ⟨s.n, mapV (liftA (dropV A R)) s.tm, absorbH A R i xss ys s.hp⟩ a := by
  have hM := hr.ok
  have hxv := raw_sound hr hx
  have hyv := raw_sound hr hy
  rw [← hr.hp] at hA hR
  obtain ⟨oA, bA, pA, hlA, hμA, hux⟩ := hxv
  rw [lk_none, hA] at hlA
  cases hlA
  have hux' : a.eval x = .pointer (some ⟨bA, pA + (i * 1 + 0), none⟩) := hux
  generalize huy : a.eval y = uy at hyv
  have huc : uy.oneCell' = true := VM_oneCell (v := .rw R 0 n) hyv
  have hAR : A ≠ R := by rintro rfl; rw [hA] at hR; cases hR
  obtain ⟨cur, e, hcur, hfit, hcells⟩ := hM.obj (A, none) _ bA pA hA hμA
  have hfit' : pA + xss.length * 1 ≤ cur.size := hfit
  let cur' : Array Value := (cur.toList.take (pA + (i * 1 + 0)) ++ [uy] ++ cur.toList.drop (pA + (i * 1 + 0) + [uy].length)).toArray
  let M' : Mem := ⟨fun k => if k = (A, some i) then M.μ (R, none) else M.μ k, absorbH A R i xss ys s.hp, M.w.setRow bA cur', M.free⟩
  have hcs : cur'.size = cur.size := by simp [cur']; omega
  have hat : ∀ k, cur'[k]? = if pA + i ≤ k ∧ k < pA + i + 1 then some uy else cur[k]? := by
    intro k
    show ((cur.toList.take (pA + (i * 1 + 0)) ++ [uy] ++ cur.toList.drop (pA + (i * 1 + 0) + [uy].length)).toArray)[k]? = _
    rw [List.getElem?_toArray, splice_at _ _ _ _ (by simp; omega)]
    have e1 : pA + (i * 1 + 0) = pA + i := by omega
    rw [e1]
    simp only [List.length_cons, List.length_nil, Nat.zero_add]
    by_cases h : pA + i ≤ k ∧ k < pA + i + 1
    · rw [if_pos h, if_pos h]
      have : k - (pA + i) = 0 := by omega
      rw [this]; rfl
    · rw [if_neg h, if_neg h]; simp
  have hb' : M'.w.heap[bA]? = some (.cells cur' e (0, 0)) := setRow_heap _ _ _ _ _ _ hcur
  have hbo : ∀ b, b ≠ bA → M'.w.heap[b]? = M.w.heap[b]? := fun b hb => setRow_other _ _ _ _ hb
  have hblk : ∀ (b : Nat) (c : Array Value) (e0 : TypeId), M.w.heap[b]? = some (Go.Obj.cells c e0 (0, 0)) → ∃ c' : Array Value, M'.w.heap[b]? = some (Go.Obj.cells c' e0 (0, 0)) ∧ c'.size = c.size := by
    intro b c e0 h
    by_cases hb : b = bA
    · subst hb
      rw [hcur] at h
      cases h
      exact ⟨cur', hb', hcs⟩
    · exact ⟨c, (hbo b hb).trans h, rfl⟩
  have hget : ∀ r, (xss.set i ys).getD r [] = if r = i then ys else xss.getD r [] := by
    intro r
    simp only [List.getD_eq_getElem?_getD]
    by_cases h : r = i
    · subst h; rw [if_pos rfl, List.getElem?_set_self hi]; rfl
    · rw [if_neg h, List.getElem?_set_ne (Ne.symm h)]
  have hlen' : (xss.set i ys).length = xss.length := by simp
  have hμi : M'.μ (A, some i) = M.μ (R, none) := by show (if (A, some i) = (A, some i) then M.μ (R, none) else M.μ (A, some i)) = _; rw [if_pos rfl]
  have hμo : ∀ k : Key, k ≠ (A, some i) → M'.μ k = M.μ k := fun k hk => by show (if k = (A, some i) then M.μ (R, none) else M.μ k) = _; rw [if_neg hk]
  have lkA : look A M'.H = some (.mat A (xss.set i ys)) := look_ins_same _ _ _
  have lkAr : ∀ r, r < xss.length → lk M'.H (A, some r) = some (.flat (.ints .i64 (if r = i then ys else xss.getD r []))) := fun r hr' => by
    rw [lk_of_row lkA (by rw [hlen']; exact hr'), hget]
  have lkAr' : ∀ r o', lk M'.H (A, some r) = some o' → r < xss.length ∧ o' = .flat (.ints .i64 (if r = i then ys else xss.getD r [])) := fun r o' h => by
    obtain ⟨_, xs2, h2, h3, rfl⟩ := lk_row h
    rw [lkA] at h2
    cases h2
    rw [hlen'] at h3
    exact ⟨h3, by rw [hget]⟩
  have lkO : ∀ (k : Key) o', k.1 ≠ A → lk M'.H k = some o' → k.1 ≠ R ∧ ∃ o1, lk M.H k = some o1 ∧ o' = liftO (dropV A R) o1 := by
    intro k o' hk h
    have h' : lk (ins A (.mat A (xss.set i ys)) (mapV (liftO (dropV A R)) (del R s.hp))) k = some o' := h
    rw [lk_ins_ne hk, lk_lift, Option.map_eq_some_iff] at h'
    obtain ⟨o1, h1, rfl⟩ := h'
    by_cases hkR : k.1 = R
    · obtain ⟨k1, r⟩ := k
      simp only at hkR
      subst hkR
      rw [lk_del_self] at h1; cases h1
    · rw [lk_del_ne hkR] at h1
      exact ⟨hkR, o1, by rw [hr.hp]; exact h1, rfl⟩
  have lkO' : ∀ (k : Key) o1, k.1 ≠ A → k.1 ≠ R → lk M.H k = some o1 → lk M'.H k = some (liftO (dropV A R) o1) := by
    intro k o1 hk hkR h1
    show lk (ins A (.mat A (xss.set i ys)) (mapV (liftO (dropV A R)) (del R s.hp))) k = _
    rw [lk_ins_ne hk, lk_lift, lk_del_ne hkR, ← hr.hp, h1]; rfl
  have lkR : ∀ r, lk M.H (R, some r) = none := fun r => by
    cases h : lk M.H (R, some r) with
    | none => rfl
    | some o => exact (lk_plain hR rfl h).elim
  have back : ∀ (k : Key) o', lk M'.H k = some o' → ∃ o0, lk M.H (if k = (A, some i) then (R, none) else k) = some o0 ∧ M'.μ k = M.μ (if k = (A, some i) then (R, none) else k) ∧ (k ≠ (A, some i) → k.1 ≠ R) ∧ o'.len = o0.len := by
    intro k o' h
    by_cases hk : k = (A, some i)
    · subst hk
      rw [if_pos rfl]
      obtain ⟨_, rfl⟩ := lkAr' i o' h
      rw [if_pos rfl]
      exact ⟨_, hR, hμi, fun h => absurd rfl h, rfl⟩
    · rw [if_neg hk]
      by_cases hkA : k.1 = A
      · obtain ⟨k1, r⟩ := k
        simp only at hkA
        subst hkA
        cases r with
        | none =>
          have h' : look k1 M'.H = some o' := h
          rw [lkA] at h'
          cases h'
          exact ⟨_, hA, hμo _ hk, fun _ => hAR, hlen'⟩
        | some r =>
          obtain ⟨h1, rfl⟩ := lkAr' r o' h
          have hri : r ≠ i := by rintro rfl; exact hk rfl
          rw [if_neg hri]
          exact ⟨_, lk_of_row hA h1, hμo _ hk, fun _ => hAR, rfl⟩
      · obtain ⟨h1, o1, h2, rfl⟩ := lkO k o' hkA h
        exact ⟨o1, h2, hμo _ hk, fun _ => h1, liftO_len _ _⟩
  have hlive : ∀ b, M'.live b → M.live b := by
    rintro b ⟨k, o', p, h1, h2⟩
    obtain ⟨o0, h3, h4, _⟩ := back k o' h1
    exact ⟨_, o0, p, h3, by rw [← h4]; exact h2⟩
  have hkeep : Keep M M' := by
    refine ⟨rfl, rfl, rfl, Nat.le_refl _, by simp [M'], fun b hb hl => ⟨hbo b ?_, fun h => hl (hlive b h)⟩, fun _ h => h, fun _ h => .inl h⟩
    rintro rfl
    exact hl ⟨(A, none), _, pA, hA, hμA⟩
  have hturn : Turns (dropV A R) M M' := by
    intro v u hn' hv
    have hnf : noFn (dropV A R v) = true := by
      cases v <;> first | rfl | (cases hn'; done) | skip
      all_goals (simp only [dropV]; cases Nat.beq _ _ <;> rfl)
    refine ⟨hnf, ?_⟩
    by_cases hlow : v.low = true
    · rw [dropV_low A R v hlow hn', VM_low hlow]
      rw [VM_low hlow] at hv
      exact VF_keep hkeep hv
    · cases v <;> first | exact absurd rfl hlow | skip
      case ptr z i' j' =>
        simp only [dropV]
        by_cases hz : z = R
        · subst hz
          rw [beq_self]
          exact VM_oneCell hv
        · rw [beq_ne hz]
          obtain ⟨o1, b, p, h1, h2, rfl⟩ := hv
          by_cases hzA : z = A
          · subst hzA
            rw [lk_none, hA] at h1
            cases h1
            exact ⟨_, b, p, lkA, by rw [hμo (z, none) (by simp)]; exact h2, rfl⟩
          · exact ⟨_, b, p, lkO' (z, none) o1 hzA hz h1, by rw [hμo (z, none) (by simp)]; exact h2, by rw [liftO_sz]⟩
      case rw z off len =>
        simp only [dropV]
        by_cases hz : z = R
        · subst hz
          rw [beq_self]
          exact VM_oneCell hv
        · rw [beq_ne hz]
          obtain ⟨o1, h1, h2, h3⟩ := hv
          have key : ∃ o', lk M'.H (z, none) = some o' ∧ o'.sz = o1.sz ∧ o1.len = o'.len := by
            by_cases hzA : z = A
            · subst hzA
              rw [lk_none, hA] at h1
              cases h1
              exact ⟨_, lkA, rfl, hlen'.symm⟩
            · exact ⟨_, lkO' (z, none) o1 hzA hz h1, liftO_sz _ _, (liftO_len _ _).symm⟩
          obtain ⟨o', g1, g2, g3⟩ := key
          refine ⟨o', g1, by omega, ?_⟩
          rw [g2, hμo (z, none) (by simp)]
          rcases h3 with h3 | ⟨b, p, a1, cap, m1, m2, m3, m4, m5, c1, e1, m6, m7⟩
          · exact .inl h3
          · obtain ⟨c2, q1, q2⟩ := hblk b c1 e1 m6
            exact .inr ⟨b, p, a1, cap, m1, m2, m3, m4, m5, c2, e1, q1, by rw [q2]; exact m7⟩
      case mptr z i' j' =>
        simp only [dropV]
        by_cases hz : z = A
        · subst hz
          rw [beq_self]
          exact VM_oneCell hv
        · rw [beq_ne hz]
          obtain ⟨o1, b, p, h1, h2, rfl⟩ := hv
          have hzR : z ≠ R := by rintro rfl; rw [lkR] at h1; cases h1
          exact ⟨_, b, p, lkO' (z, some i') o1 hz hzR h1, by rw [hμo (z, some i') (fun e => hz (congrArg Prod.fst e))]; exact h2, by rw [liftO_sz]⟩
      case mrow z i' len =>
        simp only [dropV]
        by_cases hz : z = A
        · subst hz
          rw [beq_self]
          exact VM_oneCell hv
        · rw [beq_ne hz]
          obtain ⟨o1, h1, h2, h3⟩ := hv
          have hzR : z ≠ R := by rintro rfl; rw [lkR] at h1; cases h1
          refine ⟨_, lkO' (z, some i') o1 hz hzR h1, by rw [liftO_len]; exact h2, ?_⟩
          rw [hμo (z, some i') (fun e => hz (congrArg Prod.fst e))]
          rcases h3 with h3 | ⟨b, p, cap, m1, m2, m3, m4, c1, e1, m6, m7⟩
          · exact .inl h3
          · obtain ⟨c2, q1, q2⟩ := hblk b c1 e1 m6
            exact .inr ⟨b, p, cap, m1, m2, m3, m4, c2, e1, q1, by rw [q2]; exact m7⟩
      case rs c => exact roSl_mono hkeep c.sz_pos (fun _ _ _ h => VF_keep hkeep h) hv
      case rq c i j => exact roPt_mono hkeep (fun _ _ _ h => VF_keep hkeep h) hv
  have hmem : ∀ b q (k : Key) o', lk M'.H k = some o' → M'.μ k = some (b, q) → k ≠ (A, none) → b ≠ bA := by
    rintro b q k o' h1 h2 hk rfl
    obtain ⟨o0, h3, h4, h5, _⟩ := back k o' h1
    rw [h4] at h2
    have := hM.inj _ (A, none) o0 _ b q pA h3 hA h2 hμA
    by_cases hki : k = (A, some i)
    · rw [if_pos hki] at this
      exact hAR (congrArg Prod.fst this).symm
    · rw [if_neg hki] at this
      exact hk this
  have hok : MOk M' := by
    refine ⟨((((show Named s.hp by rw [← hr.hp]; exact hM.named).del R).lift _).ins (fun _ _ h => by cases h; rfl)), fun b hb => ⟨Nat.lt_of_lt_of_le (hM.fr b hb).1 hkeep.size, fun h => (hM.fr b hb).2 (hlive b h)⟩, fun k1 k2 o1 o2 b p q h1 h2 m1 m2 => ?_, fun k o' h hm => ?_, fun k o' b p h hm => ?_⟩
    · obtain ⟨a1, g1, g2, g3, _⟩ := back k1 o1 h1
      obtain ⟨a2, g4, g5, g6, _⟩ := back k2 o2 h2
      rw [g2] at m1
      rw [g5] at m2
      have := hM.inj _ _ a1 a2 b p q g1 g4 m1 m2
      by_cases e1 : k1 = (A, some i) <;> by_cases e2 : k2 = (A, some i)
      · rw [e1, e2]
      · rw [if_pos e1, if_neg e2] at this
        exact absurd (congrArg Prod.fst this).symm (g6 e2)
      · rw [if_neg e1, if_pos e2] at this
        exact absurd (congrArg Prod.fst this) (g3 e1)
      · rw [if_neg e1, if_neg e2] at this
        exact this
    · obtain ⟨o0, h1, h2, _, h3⟩ := back k o' h
      rw [h3]
      exact hM.none_ _ o0 h1 (by rw [← h2]; exact hm)
    · by_cases hkn : k = (A, none)
      · subst hkn
        have h' : look A M'.H = some o' := h
        rw [lkA] at h'
        cases h'
        rw [hμo (A, none) (by simp), hμA] at hm
        cases hm
        refine ⟨cur', e, hb', by rw [hcs]; show pA + (xss.set i ys).length * 1 ≤ _; rw [hlen']; exact hfit', fun r hr' j hj => ?_⟩
        have hr2 : r < xss.length := by have : r < (xss.set i ys).length := hr'; omega
        have hj0 : j = 0 := by have : j < 1 := hj; omega
        subst hj0
        show ∃ u, cur'[pA + (r * 1 + 0)]? = some u ∧ u.oneCell' = true ∧ M'.keyRow (A, some r) ((xss.set i ys).getD r []).length u
        rw [hat, hget]
        by_cases hri : r = i
        · subst hri
          rw [if_pos (by omega), if_pos rfl]
          refine ⟨uy, rfl, huc, _, lkAr r hr2, by rw [if_pos rfl]; exact Nat.le_refl _, ?_⟩
          obtain ⟨oR, q1, q2, q3⟩ := hyv
          rw [lk_none, hR] at q1
          cases q1
          rw [hμi]
          rcases q3 with ⟨q3, A', rfl⟩ | ⟨b, p, a1, cap, m1, m2, m3, m4, m5, c1, e1, m6, m7⟩
          · exact .inl ⟨by omega, A', 0, rfl, Nat.zero_le _, fun _ => rfl⟩
          · obtain ⟨c2, q1, q2⟩ := hblk b c1 e1 m6
            refine .inr ⟨b, p, cap, m1, ?_, by omega, m4, c2, e1, q1, ?_⟩
            · rw [m2, m5, hn, Nat.zero_mul, Nat.add_zero]
            · have m7' : p + (0 + cap) * 1 ≤ c1.size := m7
              omega
        · rw [if_neg (by omega), if_neg hri]
          obtain ⟨u, k1, k2, k3⟩ := hcells r hr2 0 (by show 0 < 1; omega)
          refine ⟨u, k1, k2, ?_⟩
          have k3' : M.keyRow (A, some r) (xss.getD r []).length u := k3
          obtain ⟨o1, q1, q2, q3⟩ := k3'
          refine ⟨_, lkAr r hr2, by rw [if_neg hri]; exact Nat.le_refl _, ?_⟩
          rw [hμo (A, some r) (fun e => hri (Option.some.inj (congrArg Prod.snd e)))]
          rcases q3 with q3 | ⟨b, p, cap, m1, m2, m3, m4, c1, e1, m6, m7⟩
          · exact .inl q3
          · obtain ⟨c2, q1, q2⟩ := hblk b c1 e1 m6
            exact .inr ⟨b, p, cap, m1, m2, m3, m4, c2, e1, q1, by rw [q2]; exact m7⟩
      · have hbb := hmem b p k o' h hm hkn
        by_cases hkA : k.1 = A
        · obtain ⟨k1, r⟩ := k
          simp only at hkA
          subst hkA
          cases r with
          | none => exact absurd rfl hkn
          | some r =>
            obtain ⟨o0, g1, g2, _⟩ := back _ o' h
            obtain ⟨h1, rfl⟩ := lkAr' r o' h
            rw [g2] at hm
            obtain ⟨c1, e1, q1, q2, q3⟩ := hM.obj _ o0 b p g1 hm
            have ho0 : o0 = .flat (.ints .i64 (if r = i then ys else xss.getD r [])) := by
              by_cases hri : r = i
              · subst hri
                rw [if_pos rfl] at g1 ⊢
                rw [lk_none, hR] at g1
                exact (Option.some.inj g1).symm
              · rw [if_neg (fun e => hri (Option.some.inj (congrArg Prod.snd e))), lk_of_row hA h1] at g1
                rw [if_neg hri]
                exact (Option.some.inj g1).symm
            subst ho0
            refine ⟨c1, e1, (hbo b hbb).trans q1, q2, fun i' hi' j hj => ?_⟩
            obtain ⟨u, w1, w2, w3⟩ := q3 i' hi' j hj
            exact ⟨u, w1, w2, C0_cell_VR (c := .ints .i64 (if r = i then ys else xss.getD r [])) (i := i') (j := j) (C0_cell_back (M := M) (i := i') (j := j) w3)⟩
        · obtain ⟨hkR, o1, h1, rfl⟩ := lkO k o' hkA h
          rw [hμo k (fun e => hkA (congrArg Prod.fst e))] at hm
          obtain ⟨c1, e1, q1, q2, q3⟩ := hM.obj k o1 b p h1 hm
          refine ⟨c1, e1, (hbo b hbb).trans q1, by rw [liftO_len, liftO_sz]; exact q2, fun i' hi' j hj => ?_⟩
          rw [liftO_len] at hi'
          rw [liftO_sz] at hj ⊢
          obtain ⟨u, w1, w2, w3⟩ := q3 i' hi' j hj
          refine ⟨u, w1, w2, liftO_cellM hturn (dropV_low A R) (fun z zs hz i2 n2 => ?_) w3⟩
          have hzx : z ≠ A := by
            subst hz
            obtain ⟨x1, r⟩ := k
            cases r with
            | none => have := hM.named x1 z zs h1; subst this; exact hkA
            | some r => obtain ⟨_, _, _, _, h5⟩ := lk_row h1; cases h5
          simp only [dropV, beq_ne hzx, cond_false]
  have hext : Ext big M M' := by
    refine ⟨hkeep, fun k o1 hk h1 => ?_⟩
    have hkA : k.1 ≠ A := by intro e; rw [e, hbA] at hk; cases hk
    have hkR : k.1 ≠ R := by intro e; rw [e, hbR] at hk; cases hk
    exact ⟨_, lkO' k o1 hkA hkR h1, liftO_sz _ _, by rw [liftO_len]; exact Nat.le_refl _, hμo k (fun e => hkA (congrArg Prod.fst e)), fun b p c e0 _ hc => hblk b c e0 hc⟩
  refine ⟨M', ?_, hext, rfl, hok, hr.defers, hr.size, fun d v hd => ?_⟩
  · have hF := hT _ _ hti
    have hcl : uy.cells.toList = [uy] := by
      have : uy.cells = #[uy] := by
        cases uy <;> first | rfl | (cases huc; done)
      rw [this]
    have hst := run_storeCells_at P bA (pA + (i * 1 + 0)) e [uy] 0 cur M.w hcur (by simp; omega) (by intro u hu2; rw [List.mem_singleton] at hu2; subst hu2; exact huc)
    have hne : ¬ (uy.cells.size ≠ ti.sz) := by
      have : uy.cells.size = 1 := by rw [← Array.length_toList, hcl]; rfl
      omega
    simp only [Nat.add_zero] at hst hux'
    have hgoal : (execOp a.eval o).run P M.w = .ok .skip (M.w.setRow bA (cur.toList.take (pA + i * 1) ++ [uy] ++ cur.toList.drop (pA + i * 1 + [uy].length)).toArray) := by
      simp only [execOp, ho, hux', huy, Instr.storeAt, Instr.sureAddr, storeVar, Sem.run_bind, Sem.run_pure, Result.andThen_ok, sizeOf_run hF, Sem.run_ite, if_neg hne, hcl, hst]
    exact hgoal
  · have hd' : look d (mapV (liftA (dropV A R)) s.tm) = some v := hd
    rw [look_mapV, Option.map_eq_some_iff] at hd'
    obtain ⟨v0, h0, rfl⟩ := hd'
    obtain ⟨u, hu, hv⟩ := hr.tm d v0 h0
    exact ⟨u, hu, AVR_lift hturn hv⟩
theorem aops_absorb {P : Program} {T : Nat → Option TI} {K : Post} {s : St} {l : List Oper} {k : Nat} {o : Oper} {r : List Oper} {t : TypeId} {ti : TI} {x y : Operand} {A R i n : Nat} {xss : List (List Int)} {ys : List Int} (hT : ∀ t i, T t = some i → TF P t i)
    (hl : l.drop k = o :: r) (ho : o.op = .store t x y) (hg : o.guard = none) (hd : o.dst = none) (hti : T t = some ti) (hsz1 : ti.sz = 1) (hx : s.raw x = some (.one (.ptr A i 0))) (hy : s.raw y = some (.one (.rw R 0 n))) (hA : look A s.hp = some (.mat A xss)) (hR : look R s.hp = some (.flat (.ints .i64 ys)))
    (hbA : big A = true) (hbR : big R = true) (hi : i < xss.length) (hn : n = ys.length)
    (hk : AOps P l (k + 1) K ⟨s.n, mapV (liftA (dropV A R)) s.tm, absorbH A R i xss ys s.hp⟩) : AOps P l k K s := ⟨fun M0 M a he hr => by
  have hdr : l.drop (k + 1) = r := by
    have h1 : (l.drop k).drop 1 = r := by rw [hl]; rfl
    rwa [List.drop_drop] at h1
  rw [hl]
  unfold wpList
  obtain ⟨M', hrun, hext, hr'⟩ := absorb_sound (P := P) hT hr ho hti hsz1 hx hy hA hR hi hn hbA hbR
  rw [if_pos (by simp [Region.wanted, hg])]
  refine .inl ?_
  have hgo := hk.run M0 M' a (he.trans hext) hr'
  rw [hdr] at hgo
  unfold Oper.wp
  rw [hrun]
  show wpList P l.toArray (Qc K M0) r (a.put o.dst undef) M'.w
  rw [hd]
  exact hgo⟩
end Go.Ab
namespace Go.Ab
open Go
def boxV (id : Nat) (xs : List Int) : V1 → V1
  | .rw x off len => cond (Nat.beq x id) .any (.rw x off len)
  | .ptr x i j => cond (Nat.beq x id) (cond (Nat.beq i 0 && Nat.beq j 0) (.rq (.rows [xs]) 0 0) .any) (.ptr x i j)
  | v => v
def sealB (id : Nat) (s : St) : Option St :=
  match look id s.hp with
  | some (.box 1 1 [.ro (.ints .i64 xs)]) => cond (big id) (some ⟨s.n, mapV (liftA (boxV id xs)) s.tm, mapV (liftO (boxV id xs)) (del id s.hp)⟩) none
  | _ => none
theorem boxV_low (id : Nat) (xs : List Int) (v : V1) (h : v.low = true) (_ : noFn v = true) : boxV id xs v = v := by cases v <;> first | rfl | cases h
theorem awk_sealbox (id : Nat) {s s' : St} (h : sealB id s = some s') : AWk s s' := fun M a hr => by
  unfold sealB at h
  split at h
  · rename_i xs ho
    cases hbig : big id
    · rw [hbig] at h; cases h
    · rw [hbig] at h
      simp only [cond_true, Option.some.injEq] at h
      subst h
      generalize hoo : Obj.box 1 1 [V1.ro (C0.ints IntKind.i64 xs)] = o at ho
      rw [← hr.hp] at ho
      have hM := hr.ok
      have hpl : o.plain = true := by subst hoo; rfl
      let M' : Mem := ⟨M.μ, mapV (liftO (boxV id xs)) (del id s.hp), M.w, fun b => M.free b ∨ ∃ p, M.μ (id, none) = some (b, p)⟩
      have hlk : ∀ (x : Key) o', lk M'.H x = some o' → x.1 ≠ id ∧ ∃ o1, lk M.H x = some o1 ∧ o' = liftO (boxV id xs) o1 := by
        intro x o' h
        have h' : lk (mapV (liftO (boxV id xs)) (del id s.hp)) x = some o' := h
        rw [lk_lift, Option.map_eq_some_iff] at h'
        obtain ⟨o1, h1, rfl⟩ := h'
        by_cases hx : x.1 = id
        · obtain ⟨x1, r⟩ := x
          simp only at hx
          subst hx
          rw [lk_del_self] at h1; cases h1
        · rw [lk_del_ne hx] at h1
          exact ⟨hx, o1, by rw [hr.hp]; exact h1, rfl⟩
      have hlk' : ∀ (x : Key) o1, x.1 ≠ id → lk M.H x = some o1 → lk M'.H x = some (liftO (boxV id xs) o1) := by
        intro x o1 hx h1
        show lk (mapV (liftO (boxV id xs)) (del id s.hp)) x = _
        rw [lk_lift, lk_del_ne hx, ← hr.hp, h1]; rfl
      have hlive : ∀ b, M'.live b → M.live b := by
        rintro b ⟨x, o', p, h1, h2⟩
        obtain ⟨_, o1, h3, _⟩ := hlk x o' h1
        exact ⟨x, o1, p, h3, h2⟩
      have hdead : ∀ b p, M.μ (id, none) = some (b, p) → ¬ M'.live b := by
        rintro b p hm ⟨x, o', q, h1, h2⟩
        obtain ⟨hx, o1, h3, _⟩ := hlk x o' h1
        exact hx (congrArg Prod.fst (hM.inj x (id, none) o1 o b q p h3 ho h2 hm))
      have hkeep : Keep M M' := ⟨rfl, rfl, rfl, Nat.le_refl _, Nat.le_refl _, fun b _ hl => ⟨rfl, fun h => hl (hlive b h)⟩, fun b h => .inl h, fun b h => by
        rcases h with h | ⟨p, h⟩
        · exact .inl h
        · exact .inr (.inl ⟨(id, none), o, p, ho, h⟩)⟩
      have hrow : ∀ b p, M.μ (id, none) = some (b, p) → M'.rowAt o.len o.sz (fun i j u => VR M (o.cell i j) u) b p := by
        intro b p hm
        obtain ⟨cur, e, g1, g2, g3⟩ := hM.obj (id, none) o b p ho hm
        refine ⟨⟨.inr ⟨p, hm⟩, hdead b p hm⟩, fun i hi j hj => ?_⟩
        obtain ⟨u, k1, k2, k3⟩ := g3 i hi j hj
        exact ⟨u, (cell_of_row _ _ _ _ _ _ g1).trans k1, k3⟩
      have hturn : Turns (boxV id xs) M M' := by
        intro v u hn hv
        have hnf : noFn (boxV id xs v) = true := by
          cases v <;> first | rfl | (cases hn; done) | skip
          · simp only [boxV]; cases Nat.beq _ id <;> first | rfl | (cases (Nat.beq _ 0 && Nat.beq _ 0) <;> rfl)
          · simp only [boxV]; cases Nat.beq _ id <;> rfl
        refine ⟨hnf, ?_⟩
        by_cases hlow : v.low = true
        · rw [boxV_low id xs v hlow hn, VM_low hlow]
          rw [VM_low hlow] at hv
          exact VF_keep hkeep hv
        · cases v <;> first | exact absurd rfl hlow | skip
          case ptr x i j =>
            simp only [boxV]
            by_cases hx : x = id
            · subst hx
              rw [beq_self]
              simp only [cond_true]
              cases hij : (Nat.beq i 0 && Nat.beq j 0)
              · exact VM_oneCell hv
              · simp only [Bool.and_eq_true] at hij
                obtain ⟨hi0, hj0⟩ := hij
                obtain rfl := Nat.eq_of_beq_eq_true hi0
                obtain rfl := Nat.eq_of_beq_eq_true hj0
                obtain ⟨o1, b, p, h1, h2, rfl⟩ := hv
                rw [lk_none, ho] at h1
                cases h1
                obtain ⟨hfree, hcell⟩ := hrow b p h2
                subst hoo
                refine ⟨(show 0 < 1 by omega), (show 0 < 1 by omega), b, p, rfl, hfree, fun i' hi' j' hj' => ?_⟩
                have hi2 : i' < 1 := hi'
                have hj2 : j' < 1 := hj'
                obtain rfl : i' = 0 := by omega
                obtain rfl : j' = 0 := by omega
                obtain ⟨u, k1, k2⟩ := hcell 0 (by show 0 < 1; omega) 0 (by show 0 < 1; omega)
                exact ⟨u, k1, VF_keep (v := .ro (.ints .i64 xs)) hkeep k2⟩
            · rw [beq_ne hx]
              obtain ⟨o1, b, p, h1, h2, rfl⟩ := hv
              exact ⟨_, b, p, hlk' (x, none) o1 hx h1, h2, by rw [liftO_sz]⟩
          case mptr x i j =>
            obtain ⟨o1, b, p, h1, h2, rfl⟩ := hv
            have hx : x ≠ id := by rintro rfl; exact lk_plain ho hpl h1
            exact ⟨_, b, p, hlk' (x, some i) o1 hx h1, h2, by rw [liftO_sz]⟩
          case mrow x i len =>
            obtain ⟨o1, h1, h2, h3⟩ := hv
            have hx : x ≠ id := by rintro rfl; exact lk_plain ho hpl h1
            exact ⟨_, hlk' (x, some i) o1 hx h1, by rw [liftO_len]; exact h2, h3⟩
          case rw x off len =>
            simp only [boxV]
            by_cases hx : x = id
            · subst hx
              rw [beq_self]
              exact VM_oneCell hv
            · rw [beq_ne hx]
              obtain ⟨o1, h1, h2, h3⟩ := hv
              refine ⟨_, hlk' (x, none) o1 hx h1, by rw [liftO_len]; exact h2, ?_⟩
              rw [liftO_sz]
              exact h3
          case rs c => exact roSl_mono hkeep c.sz_pos (fun _ _ _ h => VF_keep hkeep h) hv
          case rq c i j => exact roPt_mono hkeep (fun _ _ _ h => VF_keep hkeep h) hv
      refine ⟨M', ⟨rfl, ?_, hr.defers, hr.size, fun d v hd => ?_⟩, rfl, ⟨hkeep, fun x o1 hx h1 => ?_⟩⟩
      · refine ⟨((show Named s.hp by rw [← hr.hp]; exact hM.named).del id).lift _, fun b hb => ?_, fun x y o1 o2 b p q hx hy hmx hmy => ?_, fun x o1 hx hm => ?_, fun x o1 b p hx hm => ?_⟩
        · rcases hb with hb | ⟨p, hb⟩
          · exact ⟨(hM.fr b hb).1, fun h => (hM.fr b hb).2 (hlive b h)⟩
          · obtain ⟨cur, e, g1, _⟩ := hM.obj (id, none) o b p ho hb
            exact ⟨(Array.getElem?_eq_some_iff.1 g1).1, hdead b p hb⟩
        · obtain ⟨_, a1, h1, _⟩ := hlk x o1 hx
          obtain ⟨_, a2, h2, _⟩ := hlk y o2 hy
          exact hM.inj x y a1 a2 b p q h1 h2 hmx hmy
        · obtain ⟨_, a1, h1, rfl⟩ := hlk x o1 hx
          rw [liftO_len]; exact hM.none_ x a1 h1 hm
        · obtain ⟨_, a1, h1, rfl⟩ := hlk x o1 hx
          obtain ⟨cur, e, g1, g2, g3⟩ := hM.obj x a1 b p h1 hm
          refine ⟨cur, e, g1, by rw [liftO_len, liftO_sz]; exact g2, fun i hi j hj => ?_⟩
          rw [liftO_len] at hi
          rw [liftO_sz] at hj ⊢
          obtain ⟨u, k1, k2, k3⟩ := g3 i hi j hj
          exact ⟨u, k1, k2, liftO_cell hturn (boxV_low id xs) (fun _ _ _ => rfl) k3⟩
      · have hd' : look d (mapV (liftA (boxV id xs)) s.tm) = some v := hd
        rw [look_mapV, Option.map_eq_some_iff] at hd'
        obtain ⟨v0, h0, rfl⟩ := hd'
        obtain ⟨u, hu, hv⟩ := hr.tm d v0 h0
        exact ⟨u, hu, AVR_lift hturn hv⟩
      · have hxi : x.1 ≠ id := by
          intro e
          rw [e, hbig] at hx; cases hx
        exact ⟨_, hlk' x o1 hxi h1, liftO_sz _ _, by rw [liftO_len]; exact Nat.le_refl _, rfl, fun b p cur e _ hc => ⟨cur, hc, rfl⟩⟩
  · cases h
end Go.Ab
namespace Go.Ab
open Go
section
variable {P : Program} {K : Post} {s : St}
end
end Go.Ab
namespace Go.Ab
open Go
end Go.Ab
namespace Go.Ab
open Go.MapKept
def DictR (es : List MapEntry) (l : List (Int × Int)) : Prop := es.map (fun e => (e.key, e.val)) = l.map fun p => (Value.int .i64 p.1, Value.int .i64 p.2)
def MapAt (M : Mem) (b : Nat) (l : List (Int × Int)) : Prop := (∃ es clk, M.w.heap[b]? = some (Go.Obj.map es clk) ∧ DictR es.toList l) ∧ ¬ M.live b ∧ ¬ M.free b
abbrev Dict := Option (Nat × List (Int × Int))
def DAt (M0 M : Mem) : Dict → Prop
  | none => True
  | some (b, l) => M0.w.heap.size ≤ b ∧ MapAt M b l
abbrev PPost := Exit → Dict → St → Prop
def Qd (K : PPost) (M0 : Mem) : Exit → Act → World → Prop := fun e a w => ∃ D s M', K e D s ∧ Rel M' s a ∧ M'.w = w ∧ Ext big M0 M' ∧ DAt M0 M' D
structure PWp (P : Program) (c : Code) (K : PPost) (D : Dict) (s : St) : Prop where
  run : ∀ M0 M a, Ext big M0 M → DAt M0 M D → Rel M s a → c.wp P (Qd K M0) a M.w
structure POps (P : Program) (l : List Oper) (k : Nat) (K : PPost) (D : Dict) (s : St) : Prop where
  run : ∀ M0 M a, Ext big M0 M → DAt M0 M D → Rel M s a → wpList P l.toArray (Qd K M0) (l.drop k) a M.w
structure PLoopEnd (I : Nat → Dict → St → Prop) (n : Nat) (D : Dict) (s : St) : Prop where
  run : ∃ m, m < n ∧ I m D s
section
variable {P : Program} {T : Nat → Option TI} {K : PPost} {D : Dict} {s s' : St}
structure Same (M M' : Mem) : Prop where
  μ : M'.μ = M.μ
  H : M'.H = M.H
  fr : M'.free = M.free
  cells : ∀ (q : Nat) cur e f, M.w.heap[q]? = some (Go.Obj.cells cur e f) → M'.w.heap[q]? = some (Go.Obj.cells cur e f)
section
variable {M M' : Mem}
end
end
end Go.Ab
namespace Go.Ab
open Go
section
variable {P : Program} {T : Nat → Option TI} {K : Post} {s : St}
def eqBs : List Bool → List Bool → Bool
  | [], [] => true
  | a :: r, b :: q => cond a (cond b (eqBs r q) false) (cond b false (eqBs r q))
  | _, _ => false
theorem eqBs_eq : ∀ {x y : List Bool}, eqBs x y = true → x = y
  | [], [], _ => rfl
  | [], _ :: _, h => by cases h
  | _ :: _, [], h => by cases h
  | a :: r, b :: q, h => by
    cases a <;> cases b <;> simp only [eqBs, cond_true, cond_false] at h
    · rw [eqBs_eq h]
    · cases h
    · cases h
    · rw [eqBs_eq h]
end
end Go.Ab
namespace Go.Ab
open Go
end Go.Ab
