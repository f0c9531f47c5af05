/- The abstract machine, part 10: an operation with its guard; operations in a row. -/
import Derived.Test.YtdglhalkilneaaaAb9
namespace Go.Ab

def tmpsOf : List Operand → List Nat
  | [] => []
  | .tmp t :: r => t :: tmpsOf r
  | _ :: r => tmpsOf r
def hasN (t : Nat) : List Nat → Bool
  | [] => false
  | u :: r => cond (Nat.beq u t) true (hasN t r)

/-- The operands' values under the guard g: of a guarded slot only if it is one of ts. -/
def St.ev (s : St) (g : Bool) (ts : List Nat) (x : Operand) : Option AV :=
  match s.raw x with
  | some (.whn g' v) => (match x with | .tmp t => cond (hasN t ts) (some (strip g (.whn g' v)).2) none | _ => none)
  | r => r
def St.owed (s : St) (g : Bool) : List Nat → List Prop
  | [] => []
  | t :: r =>
    (match look t s.tm with
    | some v => (strip g v).1 ++ s.owed g r
    | none => s.owed g r)

theorem owed_at {s : St} {g : Bool} {t : Nat} {v : AV} : ∀ {ts : List Nat}, AllP (s.owed g ts) → hasN t ts = true → look t s.tm = some v → AllP (strip g v).1
  | [], _, h, _ => by cases h
  | u :: r, hc, h, hl => by
    unfold hasN at h
    cases hb : Nat.beq u t
    · rw [hb] at h
      simp only [cond_false] at h
      unfold St.owed at hc
      split at hc
      · exact owed_at (AllP_append.1 hc).2 h hl
      · exact owed_at hc h hl
    · obtain rfl := Nat.eq_of_beq_eq_true hb
      unfold St.owed at hc
      rw [hl] at hc
      exact (AllP_append.1 hc).1

theorem ev_sound {M : Mem} {s : St} {a : Act} {g : Bool} {ts : List Nat} (hg : g = true) (hr : Rel M s a) (hc : AllP (s.owed g ts)) : ∀ x v, s.ev g ts x = some v → AVR M v (a.eval x) := by
  intro x v h
  unfold St.ev at h
  split at h
  · rename_i g' v' hx
    split at h
    · rename_i t
      cases hb : hasN t ts
      · rw [hb] at h; cases h
      · rw [hb] at h
        simp only [cond_true, Option.some.injEq] at h
        subst h
        exact strip_sound hg (raw_sound hr hx) (owed_at hc hb hx)
    · cases h
  · exact raw_sound hr h

/-! ### Guards -/
def gB (want : Bool) : AV → Option Bool
  | .one (.bool b) => some (cond want b (!b))
  | .whn g v => (gB want v).map (g && ·)
  | _ => none
def guardOf (ops : Array Oper) (s : St) : Option (Nat × Bool) → Option Bool
  | none => some true
  | some (j, want) =>
    (match (ops[j]?).bind (·.dst) with
    | some t => (match look t s.tm with | some v => gB want v | none => none)
    | none => none)

theorem gB_sound {M : Mem} {want : Bool} : ∀ {v : AV} {g : Bool} {u : Value}, gB want v = some g → AVR M v u → ((match (some u : Option Value) with | some (.bool b) => some b | _ => none) == some want) = g
  | .one v, g, u, h, hv => by
    cases v <;> simp only [gB] at h <;> first | (cases h; done) | skip
    simp only [Option.some.injEq] at h
    have e := VR_bool hv
    subst e
    rename_i b
    subst h
    cases want <;> cases b <;> rfl
  | .agg _, _, _, h, _ => by cases h
  | .tup _, _, _, h, _ => by cases h
  | .whn g' v, g, u, h, hv => by
    simp only [gB, Option.map_eq_some_iff] at h
    obtain ⟨b, hb, rfl⟩ := h
    cases g'
    · rw [hv.2 rfl]
      rfl
    · rw [Bool.true_and]
      exact gB_sound hb (hv.1 rfl)

theorem guard_sound {M : Mem} {ops : Array Oper} {s : St} {a : Act} {o : Oper} {g : Bool} (hr : Rel M s a) (h : guardOf ops s o.guard = some g) : Region.wanted o (yielded ops a.tmps) = g := by
  unfold Region.wanted
  cases hg : o.guard with
  | none =>
    rw [hg] at h
    simp only [guardOf, Option.some.injEq] at h
    exact h
  | some jw =>
    obtain ⟨j, want⟩ := jw
    rw [hg] at h
    simp only [guardOf] at h
    split at h
    · rename_i t ht
      split at h
      · rename_i v hv
        obtain ⟨u, hu, hvu⟩ := hr.tm t v hv
        have := gB_sound h hvu
        simp only [yielded, ht, Option.bind_some, hu]
        exact this
      · cases h
    · cases h

/-! ### One operation -/
def pickV (s : St) (g : Bool) (c a b : Operand) : SR :=
  match s.raw c with
  | some vc =>
    (match (strip g vc).2 with
    | .one (.bool cb) =>
      (match a, b with
      | .const (.bool true), b =>
        (match s.raw b with
        | some vb => (match (strip (g && !cb) vb).2 with | .one (.bool y) => some ((strip g vc).1 ++ (strip (g && !cb) vb).1, .one (.bool (cb || y))) | _ => none)
        | none => none)
      | a, .const (.bool false) =>
        (match s.raw a with
        | some va => (match (strip (g && cb) va).2 with | .one (.bool x) => some ((strip g vc).1 ++ (strip (g && cb) va).1, .one (.bool (cb && x))) | _ => none)
        | none => none)
      | a, b =>
        (match s.raw a, s.raw b with
        | some va, some vb =>
          (match (strip (g && cb) va).2, (strip (g && !cb) vb).2 with
          | .one (.bool x), .one (.bool y) => some ((strip g vc).1 ++ ((strip (g && cb) va).1 ++ (strip (g && !cb) vb).1), .one (.bool (cond cb x y)))
          | _, _ => none)
        | _, _ => none))
    | _ => none)
  | none => none

/-- What only reads. -/
def stepRd (T : Nat → Option TI) (s : St) (g : Bool) (op : Op) : SR :=
  match op with
  | .pick c a b => pickV s g c a b
  | .load t x => (match s.ev g (tmpsOf [x]) x with | some v => (match stLoad T s.hp t v with | some (cs, u) => some (s.owed g (tmpsOf [x]) ++ cs, u) | none => none) | none => none)
  | op => (match stepPure T s.hp (s.ev g (tmpsOf op.operands.toList)) op with | some (cs, u) => some (s.owed g (tmpsOf op.operands.toList) ++ cs, u) | none => none)

theorem pickV_sound {P : Program} {M : Mem} {s : St} {a : Act} {g : Bool} {c x y : Operand} {cs : List Prop} {v : AV} {o : Oper} (ho : o.op = .pick c x y) (hg : g = true) (hr : Rel M s a) (h : pickV s g c x y = some (cs, v)) (hc : AllP cs) :
    ∃ u, (execOp a.eval o).run P M.w = .ok (.value u) M.w ∧ AVR M v u := by
  subst hg
  unfold pickV at h
  split at h
  · rename_i vc hvc
    split at h
    · rename_i cb hcb
      have hcv : AllP (strip true vc).1 → a.eval c = .bool cb := fun hcc => by
        have := strip_sound rfl (raw_sound hr hvc) hcc
        rw [hcb] at this
        exact this
      have hrun : a.eval c = .bool cb → (execOp a.eval o).run P M.w = .ok (.value (if cb then a.eval x else a.eval y)) M.w := fun hcc => by
        simp [execOp, ho, hcc, asBool]
      split at h
      · split at h
        · rename_i vb hvb
          split at h
          · rename_i yb hyb
            simp only [Option.some.injEq, Prod.mk.injEq] at h
            obtain ⟨rfl, rfl⟩ := h
            obtain ⟨h1, h2⟩ := AllP_append.1 hc
            refine ⟨_, hrun (hcv h1), ?_⟩
            cases cb
            · have := strip_sound (g := true && !false) rfl (raw_sound hr hvb) h2
              rw [hyb] at this
              simpa using this
            · exact rfl
          · cases h
        · cases h
      · split at h
        · rename_i va hva
          split at h
          · rename_i xb hxb
            simp only [Option.some.injEq, Prod.mk.injEq] at h
            obtain ⟨rfl, rfl⟩ := h
            obtain ⟨h1, h2⟩ := AllP_append.1 hc
            refine ⟨_, hrun (hcv h1), ?_⟩
            cases cb
            · exact rfl
            · have := strip_sound (g := true && true) rfl (raw_sound hr hva) h2
              rw [hxb] at this
              simpa using this
          · cases h
        · cases h
      · split at h
        · rename_i va vb hva hvb
          split at h
          · rename_i xb yb hxb hyb
            simp only [Option.some.injEq, Prod.mk.injEq] at h
            obtain ⟨rfl, rfl⟩ := h
            obtain ⟨h1, h2⟩ := AllP_append.1 hc
            obtain ⟨h3, h4⟩ := AllP_append.1 h2
            refine ⟨_, hrun (hcv h1), ?_⟩
            cases cb
            · have := strip_sound (g := true && !false) rfl (raw_sound hr hvb) h4
              rw [hyb] at this
              simpa using this
            · have := strip_sound (g := true && true) rfl (raw_sound hr hva) h3
              rw [hxb] at this
              simpa using this
          · cases h
        · cases h
    · cases h
  · cases h

theorem stepRd_sound {P : Program} {T : Nat → Option TI} {M : Mem} {s : St} {a : Act} {g : Bool} {o : Oper} {cs : List Prop} {v : AV} (hT : ∀ t i, T t = some i → TF P t i) (hg : g = true) (hr : Rel M s a) (h : stepRd T s g o.op = some (cs, v)) (hc : AllP cs) :
    ∃ u, (execOp a.eval o).run P M.w = .ok (.value u) M.w ∧ AVR M v u := by
  unfold stepRd at h
  split at h
  · rename_i c x y hop
    exact pickV_sound hop hg hr h hc
  · rename_i t x hop
    split at h
    · rename_i v0 hv0
      split at h
      · rename_i cs1 u1 hl
        simp only [Option.some.injEq, Prod.mk.injEq] at h
        obtain ⟨rfl, rfl⟩ := h
        obtain ⟨h1, h2⟩ := AllP_append.1 hc
        rw [← hr.hp] at hl
        obtain ⟨u, hu, hv⟩ := stLoad_sound (P := P) hT hr.ok hl (ev_sound hg hr h1 _ _ hv0) h2
        exact ⟨u, by simp only [execOp, hop, Sem.run_bind, hu, Result.andThen_ok, Sem.run_pure], hv⟩
      · cases h
    · cases h
  · split at h
    · rename_i cs1 u1 hl
      simp only [Option.some.injEq, Prod.mk.injEq] at h
      obtain ⟨rfl, rfl⟩ := h
      obtain ⟨h1, h2⟩ := AllP_append.1 hc
      rw [← hr.hp] at hl
      exact stepPure_sound hT hr.ok (ev_sound hg hr h1) hl h2
    · cases h

def putD (dst : Option Nat) (v : AV) (n : Nat) (tm : List (Nat × AV)) : Option (List (Nat × AV)) :=
  match dst with
  | some d => cond (Nat.ble (d + 1) n) (some (ins d v tm)) none
  | none => none

def whnAll (g : Bool) : List Prop → List Prop
  | [] => []
  | p :: r => (g = true → p) :: whnAll g r

/-- One operation: what it owes, and the state behind it. -/
def memStep (T : Nat → Option TI) (s : St) (o : Oper) : Option (List Prop × St) :=
  match stepMem T s.hp (s.ev true (tmpsOf o.op.operands.toList)) o.dst o.op with
  | some r =>
    (match r.x, r.val with
    | none, none => cond o.dst.isNone (some (s.owed true (tmpsOf o.op.operands.toList) ++ r.cs, ⟨s.n, s.tm, r.hp⟩)) none
    | some id, some v =>
      (match putD o.dst v s.n (mapV (clrA (Nat.beq id)) s.tm) with
      | some tm => cond (Nat.ble 100 id) (some (s.owed true (tmpsOf o.op.operands.toList) ++ r.cs, ⟨s.n, tm, r.hp⟩)) none
      | none => none)
    | _, _ => none)
  | none => none
def stepOp (T : Nat → Option TI) (ops : Array Oper) (s : St) (o : Oper) : Option (List Prop × St) :=
  match o.guard with
  | none =>
    (match stepRd T s true o.op with
    | some (cs, v) => (match putD o.dst v s.n s.tm with | some tm => some (cs, ⟨s.n, tm, s.hp⟩) | none => none)
    | none => memStep T s o)
  | some gd =>
    (match guardOf ops s (some gd) with
    | some g =>
      (match stepRd T s g o.op with
      | some (cs, v) => (match putD o.dst (.whn g v) s.n s.tm with | some tm => some (whnAll g cs, ⟨s.n, tm, s.hp⟩) | none => none)
      | none => (match memStep T s o with | some r => cond g (some r) none | none => none))
    | none => none)

/-- Numbers from 100 on are the call's own. -/
def big (x : Nat) : Bool := Nat.ble 100 x

theorem whnAll_true {g : Bool} (hg : g = true) : ∀ {l : List Prop}, AllP (whnAll g l) → AllP l
  | [], _ => trivial
  | _p :: _r, h => ⟨h.1 hg, whnAll_true hg h.2⟩

theorem Rel.put {M : Mem} {s : St} {a : Act} {v : AV} {u : Value} {dst : Option Nat} {tm : List (Nat × AV)} (hr : Rel M s a) (hd : putD dst v s.n s.tm = some tm) (hv : AVR M v u) : Rel M ⟨s.n, tm, s.hp⟩ (a.put dst u) := by
  unfold putD at hd
  split at hd
  · rename_i d'
    cases hb : Nat.ble (d' + 1) s.n
    · rw [hb] at hd; cases hd
    · rw [hb] at hd
      have hlt := Nat.le_of_ble_eq_true hb
      simp only [cond_true, Option.some.injEq] at hd
      subst hd
      refine ⟨hr.hp, hr.ok, hr.defers, by simp [Act.put, hr.size], fun e x he => ?_⟩
      simp only [Act.put]
      simp only at he
      rw [look_ins] at he
      split at he
      · rename_i hed
        subst hed
        cases he
        exact ⟨u, by rw [Array.getElem?_setIfInBounds_self_of_lt (by rw [hr.size]; omega)], hv⟩
      · rename_i hed
        obtain ⟨y, hy, hxy⟩ := hr.tm e x he
        exact ⟨y, by rw [Array.getElem?_setIfInBounds_ne (Ne.symm hed)]; exact hy, hxy⟩
  · cases hd

theorem Rel.step {M M' : Mem} {s : St} {a : Act} {hp : Heap} {X : Nat → Bool} (hr : Rel M s a) (hH : M'.H = hp) (hok : MOk M') (he : Ext X M M') : Rel M' ⟨s.n, mapV (clrA X) s.tm, hp⟩ a := by
  refine ⟨hH, hok, hr.defers, hr.size, fun d v hd => ?_⟩
  rw [look_mapV, Option.map_eq_some_iff] at hd
  obtain ⟨v0, h0, rfl⟩ := hd
  obtain ⟨u, hu, hv⟩ := hr.tm d v0 h0
  exact ⟨u, hu, AVR_ext he hv⟩
theorem Rel.step0 {M M' : Mem} {s : St} {a : Act} {hp : Heap} (hr : Rel M s a) (hH : M'.H = hp) (hok : MOk M') (he : Ext noX M M') : Rel M' ⟨s.n, s.tm, hp⟩ a := by
  refine ⟨hH, hok, hr.defers, hr.size, fun d v hd => ?_⟩
  obtain ⟨u, hu, hv⟩ := hr.tm d v hd
  exact ⟨u, hu, AVR_ext0 he hv⟩

theorem memStep_sound {P : Program} {T : Nat → Option TI} {s s' : St} {o : Oper} {cs : List Prop} {M : Mem} {a : Act} (hT : ∀ t i, T t = some i → TF P t i) (h : memStep T s o = some (cs, s')) (hc : AllP cs) (hr : Rel M s a) :
    ∃ (n : Next) (M' : Mem) (u : Value), (execOp a.eval o).run P M.w = .ok n M'.w ∧ Ext big M M' ∧ Rel M' s' (a.put o.dst u) ∧ (n = .value u ∨ (n = .skip ∧ u = undef)) := by
  unfold memStep at h
  split at h
  · rename_i r hmem
    split at h
    · rename_i hx hval
      cases hdst : o.dst with
      | some d => rw [hdst] at h; cases h
      | none =>
        rw [hdst] at h
        simp only [Option.isNone_none, cond_true, Option.some.injEq, Prod.mk.injEq] at h
        obtain ⟨rfl, rfl⟩ := h
        obtain ⟨h1, h2⟩ := AllP_append.1 hc
        rw [← hr.hp] at hmem
        obtain ⟨n, M', hrun, hH, hok, hext, hn⟩ := stepMem_sound (P := P) hT hr.ok (ev_sound rfl hr h1) hmem h2
        rw [hval] at hn
        rw [hx] at hext
        exact ⟨n, M', undef, hrun, hext.mono (fun x hx => by cases hx), hr.step0 hH hok hext, .inr ⟨hn, rfl⟩⟩
    · rename_i id v hx hval
      split at h
      · rename_i tm htm
        cases hb : Nat.ble 100 id
        · rw [hb] at h; cases h
        · rw [hb] at h
          simp only [cond_true, Option.some.injEq, Prod.mk.injEq] at h
          obtain ⟨rfl, rfl⟩ := h
          obtain ⟨h1, h2⟩ := AllP_append.1 hc
          rw [← hr.hp] at hmem
          obtain ⟨n, M', hrun, hH, hok, hext, hn⟩ := stepMem_sound (P := P) hT hr.ok (ev_sound rfl hr h1) hmem h2
          rw [hval] at hn
          rw [hx] at hext
          obtain ⟨u, rfl, hv⟩ := hn
          exact ⟨_, M', u, hrun, hext.mono (fun x hx => by have := Nat.eq_of_beq_eq_true hx; subst this; exact hb), (hr.step hH hok hext).put htm hv, .inl rfl⟩
      · cases h
    · cases h
  · cases h

/-- ONE OPERATION IS SOUND: it is passed over, or it runs, and leaves what the abstract step says. -/
theorem stepOp_sound {P : Program} {T : Nat → Option TI} {ops : Array Oper} {s s' : St} {o : Oper} {cs : List Prop} {M : Mem} {a : Act} (hT : ∀ t i, T t = some i → TF P t i) (h : stepOp T ops s o = some (cs, s')) (hc : AllP cs) (hr : Rel M s a) :
    (Region.wanted o (yielded ops a.tmps) = false ∧ Rel M s' (a.put o.dst undef)) ∨
    (Region.wanted o (yielded ops a.tmps) = true ∧ ∃ (n : Next) (M' : Mem) (u : Value), (execOp a.eval o).run P M.w = .ok n M'.w ∧ Ext big M M' ∧ Rel M' s' (a.put o.dst u) ∧ (n = .value u ∨ (n = .skip ∧ u = undef))) := by
  unfold stepOp at h
  split at h
  · rename_i hg
    refine .inr ⟨by simp [Region.wanted, hg], ?_⟩
    split at h
    · rename_i cs1 v hrd
      split at h
      · rename_i tm htm
        simp only [Option.some.injEq, Prod.mk.injEq] at h
        obtain ⟨rfl, rfl⟩ := h
        obtain ⟨u, hu, hv⟩ := stepRd_sound (P := P) hT rfl hr hrd hc
        exact ⟨_, M, u, hu, Ext.refl _ _, hr.put htm hv, .inl rfl⟩
      · cases h
    · exact memStep_sound hT h hc hr
  · rename_i gd hg
    split at h
    · rename_i g hgo
      rw [← hg] at hgo
      have hw := guard_sound hr hgo
      split at h
      · rename_i cs1 v hrd
        split at h
        · rename_i tm htm
          simp only [Option.some.injEq, Prod.mk.injEq] at h
          obtain ⟨rfl, rfl⟩ := h
          cases hgb : g
          · subst hgb
            exact .inl ⟨hw, hr.put htm ⟨fun h => (by cases h), fun _ => rfl⟩⟩
          · obtain ⟨u, hu, hv⟩ := stepRd_sound (P := P) hT hgb hr hrd (whnAll_true hgb hc)
            exact .inr ⟨by rw [hw, hgb], _, M, u, hu, Ext.refl _ _, hr.put htm ⟨fun _ => hv, fun h => by rw [hgb] at h; cases h⟩, .inl rfl⟩
        · cases h
      · split at h
        · rename_i r hm
          cases hgb : g
          · rw [hgb] at h; cases h
          · rw [hgb] at h
            simp only [cond_true, Option.some.injEq] at h
            subst h
            exact .inr ⟨by rw [hw, hgb], memStep_sound hT hm hc hr⟩
        · cases h
    · cases h

/-- Operations in a row. -/
def runOps (T : Nat → Option TI) (ops : Array Oper) : List Oper → St → Option (List Prop × St)
  | [], s => some ([], s)
  | o :: r, s =>
    (match stepOp T ops s o with
    | some (cs, s') => (match runOps T ops r s' with | some (cs', s'') => some (cs ++ cs', s'') | none => none)
    | none => none)

end Go.Ab
