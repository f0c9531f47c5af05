/- The abstract machine, part 15: regions that draw the order of their operations. -/
import Derived.Test.YtdglhalkilneaaaAb14
import Derived.StillTail
namespace Go.Ab

/-! ### A draw -/
def Mem.drawn (M : Mem) : Mem := ⟨M.μ, M.H, { M.w with drawn := M.w.drawn + 1 }, M.free⟩
theorem drawn_ext (M : Mem) : Ext noX M M.drawn :=
  ⟨⟨rfl, rfl, rfl, Nat.le_refl _, fun _ _ h => ⟨rfl, h⟩, fun _ h => h, fun _ h => .inl h⟩, fun _x o _ h => ⟨o, h, rfl, Nat.le_refl _, rfl, fun _ _ cur _e _ hc => ⟨cur, hc, rfl⟩⟩⟩
theorem drawn_rel {M : Mem} {s : St} {a : Act} (hr : Rel M s a) : Rel M.drawn s a := by
  have he := drawn_ext M
  have hok : MOk M.drawn := by
    refine ⟨fun b hb => hr.ok.fr b hb, hr.ok.inj, hr.ok.none_, fun x o b p hx hm => ?_⟩
    obtain ⟨cur, e, h1, h2, h3⟩ := hr.ok.obj x o b p hx hm
    exact ⟨cur, e, h1, h2, fun i hi j hj => (h3 i hi j hj).imp fun u h => ⟨h.1, h.2.1, VR_ext0 he h.2.2⟩⟩
  have := hr.step0 (M' := M.drawn) rfl hok he
  rw [show M.drawn.H = s.hp from hr.hp] at this
  exact this

section
variable {P : Program} {T : Nat → Option TI} {K : Post} {s s' : St}

/-! ### Reads, then what comes behind them -/
def stepRdG (T : Nat → Option TI) (ops : Array Oper) (s : St) (o : Oper) : Option (List Prop × St) :=
  match o.guard with
  | none => (match stepRd T s true o.op with | some (cs, v) => (match putD o.dst v s.n s.tm with | some tm => some (cs, ⟨s.n, tm, s.hp⟩) | none => none) | none => none)
  | some gd =>
    (match guardOf ops s (some gd) with
    | some g => (match stepRd T s g o.op with | some (cs, v) => (match putD o.dst (.whn g v) s.n s.tm with | some tm => some (whnAll g cs, ⟨s.n, tm, s.hp⟩) | none => none) | none => none)
    | none => none)

theorem stepRdG_sound {ops : Array Oper} {o : Oper} {cs : List Prop} {M : Mem} {a : Act} (hT : ∀ t i, T t = some i → TF P t i) (h : stepRdG T ops s o = some (cs, s')) (hc : AllP cs) (hr : Rel M s a) :
    (Region.wanted o (yielded ops a.tmps) = false ∧ Rel M s' (a.put o.dst undef)) ∨ (Region.wanted o (yielded ops a.tmps) = true ∧ ∃ u, (execOp a.eval o).run P M.w = .ok (.value u) M.w ∧ Rel M s' (a.put o.dst u)) := by
  unfold stepRdG at h
  split at h
  · rename_i hg
    split at h
    · rename_i cs1 v hrd
      split at h
      · rename_i tm htm
        cases h
        obtain ⟨u, hu, hv⟩ := stepRd_sound (P := P) hT rfl hr hrd hc
        exact .inr ⟨by simp [Region.wanted, hg], u, hu, hr.put htm hv⟩
      · cases h
    · cases h
  · rename_i gd hg
    split at h
    · rename_i g hgo
      rw [← hg] at hgo
      have hw := guard_sound hr hgo
      split at h
      · rename_i cs1 v hrd
        split at h
        · rename_i tm htm
          cases h
          cases hgb : g
          · subst hgb
            exact .inl ⟨hw, hr.put htm ⟨fun h => (by cases h), fun _ => rfl⟩⟩
          · obtain ⟨u, hu, hv⟩ := stepRd_sound (P := P) hT hgb hr hrd (whnAll_true hgb hc)
            exact .inr ⟨by rw [hw, hgb], u, hu, hr.put htm ⟨fun _ => hv, fun h => by rw [hgb] at h; cases h⟩⟩
        · cases h
      · cases h
    · cases h

def runRd (T : Nat → Option TI) (ops : Array Oper) : List Oper → St → Option (List Prop × St)
  | [], s => some ([], s)
  | o :: r, s =>
    (match stepRdG T ops s o with
    | some (cs, s') => (match runRd T ops r s' with | some (cs', s'') => some (cs ++ cs', s'') | none => none)
    | none => none)

theorem runRd_still {ops : Array Oper} {Lq : Act → Prop} {M : Mem} (hT : ∀ t i, T t = some i → TF P t i) (l : List Oper) : ∀ (s : St) (cs : List Prop) (a : Act), runRd T ops l s = some (cs, s') → AllP cs → Rel M s a → (∀ a', Rel M s' a' → Lq a') → wpStill P ops M.w Lq l a := by
  induction l with
  | nil =>
    intro s cs a h _ hr hq
    cases h
    exact hq a hr
  | cons o r ih =>
    intro s cs a h hc hr hq
    unfold runRd at h
    split at h
    · rename_i cs1 s1 h1
      split at h
      · rename_i cs2 s2 h2
        cases h
        obtain ⟨c1, c2⟩ := AllP_append.1 hc
        unfold wpStill
        rcases stepRdG_sound (P := P) hT h1 c1 hr with ⟨hw, hr'⟩ | ⟨hw, u, hu, hr'⟩
        · rw [if_neg (by rw [hw]; decide)]
          exact ih s1 cs2 _ h2 c2 hr' hq
        · rw [if_pos hw]
          unfold Oper.still
          rw [hu, Oper.stillUpon_value]
          exact ih s1 cs2 _ h2 c2 hr' hq
      · cases h
    · cases h

def runCutRd (T : Nat → Option TI) (l : List Oper) (n : Nat) (ks hs : List Nat) (s : St) : Option (List Prop × St) :=
  match runRd T l.toArray (l.take n) s with
  | some (cs, s') => some (cs, cutS ks hs s')
  | none => none

/-- The first n operations only read, in an order that is drawn; the others come behind all of them, one after the other. -/
theorem awp_tail {id : Nat} {l : List Oper} (n : Nat) (ks hs : List Nat) (cs : List Prop) (s' : St) (hm : P.follows .mixedOrders = true) (hB : Region.lexTailB .any l.toArray n = true) (hT : ∀ t i, T t = some i → TF P t i) (h : runCutRd T l n ks hs s = some (cs, s')) (hc : AllP cs) (hk : AOps P l n K s') :
    AWp P (.region id l.toArray true) K s := ⟨fun M0 M a he hr => by
  unfold runCutRd at h
  split at h
  · rename_i cs1 s1 h1
    cases h
    refine wp_region_still_tail n hm hB ?_
    refine runRd_still (M := M.drawn) hT (l.take n) s cs a h1 hc (drawn_rel hr) fun a' hr' => ?_
    exact (aops_weak (awk_cut ks hs s1) hk).run M0 M.drawn a' (he.trans ((drawn_ext M).mono fun x hx => by cases hx)) hr'
  · cases h⟩

/-- All operations only read. -/
theorem awp_still {id : Nat} {l : List Oper} (ks hs : List Nat) (cs : List Prop) (s' : St) (hm : P.follows .mixedOrders = true) (hB : Region.lexB .any l.toArray = true) (hT : ∀ t i, T t = some i → TF P t i) (h : runCutRd T l l.length ks hs s = some (cs, s')) (hc : AllP cs) (hk : K .normal s') :
    AWp P (.region id l.toArray true) K s := ⟨fun M0 M a he hr => by
  unfold runCutRd at h
  rw [List.take_length] at h
  split at h
  · rename_i cs1 s1 h1
    cases h
    refine wp_region_still_lit hm hB ?_
    refine runRd_still (M := M.drawn) hT l s cs a h1 hc (drawn_rel hr) fun a' hr' => ?_
    obtain ⟨M', h3, h4, h5⟩ := awk_cut ks hs s1 M.drawn a' hr'
    refine ⟨_, M', hk, h3, h4, (he.trans ((drawn_ext M).mono fun x hx => by cases hx)).trans h5⟩
  · cases h⟩

/-! ### All orders -/
/-- A value that leaves no choice. -/
def detA : AV → Bool
  | .one (.bool _) => true
  | .one (.int _ _) => true
  | .one (.str _) => true
  | _ => false
theorem detA_uniq {M : Mem} {v : AV} {u u' : Value} (h : detA v = true) (h1 : AVR M v u) (h2 : AVR M v u') : u = u' := by
  unfold detA at h
  split at h
  · exact (show u = _ from h1).trans (show u' = _ from h2).symm
  · exact (show u = _ from h1).trans (show u' = _ from h2).symm
  · exact (show u = _ from h1).trans (show u' = _ from h2).symm
  · cases h

/-- Operations whose value hangs on no world. -/
def calmOp : Op → Bool
  | .move _ => true
  | .assign _ => true
  | .fieldAddr _ _ _ => true
  | .indexAddr _ _ _ => true
  | _ => false
def calmDet : Op → Bool
  | .binOp _ _ _ _ _ => true
  | .unOp _ _ _ => true
  | .convert _ _ _ => true
  | .call c => (match c.callee with | .builtin _ => true | _ => false)
  | _ => false
def isCalm (op : Op) (v : AV) : Bool := calmOp op || (calmDet op && detA v)

theorem uniq_all {o : Oper} {ρ : Operand → Value} {M : Mem} {v : AV} (hd : detA v = true) (h : ∀ w, ∃ u, (execOp ρ o).run P w = .ok (.value u) w ∧ AVR M v u) (w0 : World) : ∃ u, (∀ w, (execOp ρ o).run P w = .ok (.value u) w) ∧ AVR M v u := by
  obtain ⟨u, _, hv⟩ := h w0
  refine ⟨u, fun w => ?_, hv⟩
  obtain ⟨u', hu', hv'⟩ := h w
  rw [detA_uniq hd hv hv']
  exact hu'

theorem calm_sound {M : Mem} {a : Act} {g : Bool} {o : Oper} {cs : List Prop} {v : AV} (hT : ∀ t i, T t = some i → TF P t i) (hg : g = true) (hr : Rel M s a) (h : stepRd T s g o.op = some (cs, v)) (hc : AllP cs) (hcalm : isCalm o.op v = true) :
    ∃ u, (∀ w, (execOp a.eval o).run P w = .ok (.value u) w) ∧ AVR M v u := by
  have hrp := hr.hp
  simp only [isCalm, Bool.or_eq_true, Bool.and_eq_true] at hcalm
  cases ho : o.op <;> rw [ho] at h hcalm <;> simp only [calmOp, calmDet, Bool.false_eq_true, false_and, or_self, false_or, or_false, true_and] at hcalm <;> simp only [stepRd, stepPure] at h
  case move x =>
    split at h
    · rename_i cs1 u1 hl
      simp only [Option.some.injEq, Prod.mk.injEq] at h
      obtain ⟨rfl, rfl⟩ := h
      obtain ⟨h1, h2⟩ := AllP_append.1 hc
      simp only [Option.map_eq_some_iff, Prod.mk.injEq] at hl
      obtain ⟨a1, ha1, rfl, rfl⟩ := hl
      exact ⟨a.eval x, fun w => by simp [execOp, ho], ev_sound hg hr h1 _ _ ha1⟩
    · cases h
  case assign x =>
    split at h
    · rename_i cs1 u1 hl
      simp only [Option.some.injEq, Prod.mk.injEq] at h
      obtain ⟨rfl, rfl⟩ := h
      obtain ⟨h1, h2⟩ := AllP_append.1 hc
      simp only [Option.map_eq_some_iff, Prod.mk.injEq] at hl
      obtain ⟨a1, ha1, rfl, rfl⟩ := hl
      exact ⟨a.eval x, fun w => by simp [execOp, ho], ev_sound hg hr h1 _ _ ha1⟩
    · cases h
  case fieldAddr t x f =>
    split at h
    · rename_i cs1 u1 hl
      simp only [Option.some.injEq, Prod.mk.injEq] at h
      obtain ⟨rfl, rfl⟩ := h
      obtain ⟨h1, h2⟩ := AllP_append.1 hc
      split at hl
      · rename_i a1 ha1
        obtain ⟨u, hu, hv⟩ := stFieldAddr_sound (P := P) hT hl (ev_sound hg hr h1 _ _ ha1)
        exact ⟨u, fun w => by simp only [execOp, ho, Sem.run_bind, hu, Result.andThen_ok, Sem.run_pure], hv⟩
      · cases hl
    · cases h
  case indexAddr t x i =>
    split at h
    · rename_i cs1 u1 hl
      simp only [Option.some.injEq, Prod.mk.injEq] at h
      obtain ⟨rfl, rfl⟩ := h
      obtain ⟨h1, h2⟩ := AllP_append.1 hc
      rw [← hrp] at hl
      split at hl
      · rename_i a1 b1 ha1 hb1
        obtain ⟨u, hu, hv⟩ := stIndexAddr_sound (P := P) hT hl (ev_sound hg hr h1 _ _ ha1) (ev_sound hg hr h1 _ _ hb1) h2
        exact ⟨u, fun w => by simp only [execOp, ho, Sem.run_bind, hu, Result.andThen_ok, Sem.run_pure], hv⟩
      · cases hl
    · cases h
  case binOp op t x y yt =>
    split at h
    · rename_i cs1 u1 hl
      simp only [Option.some.injEq, Prod.mk.injEq] at h
      obtain ⟨rfl, rfl⟩ := h
      obtain ⟨h1, h2⟩ := AllP_append.1 hc
      split at hl
      · rename_i a1 b1 ha1 hb1
        refine uniq_all hcalm (fun w => ?_) M.w
        obtain ⟨u, hu, hv⟩ := stBin_sound (P := P) (x := x) (y := y) hT hl (ev_sound hg hr h1 _ _ ha1) (ev_sound hg hr h1 _ _ hb1) h2 w
        exact ⟨u, by simp only [execOp, ho]; rw [Sem.run_bind, hu]; rfl, hv⟩
      · cases hl
    · cases h
  case unOp op t x =>
    split at h
    · rename_i cs1 u1 hl
      simp only [Option.some.injEq, Prod.mk.injEq] at h
      obtain ⟨rfl, rfl⟩ := h
      obtain ⟨h1, h2⟩ := AllP_append.1 hc
      split at hl
      · rename_i a1 ha1
        refine uniq_all hcalm (fun w => ?_) M.w
        obtain ⟨u, hu, hv⟩ := stUn_sound (P := P) hl (ev_sound hg hr h1 _ _ ha1) h2 w
        exact ⟨u, by simp only [execOp, ho, Sem.run_bind, hu, Result.andThen_ok, Sem.run_pure], hv⟩
      · cases hl
    · cases h
  case convert src dst x =>
    split at h
    · rename_i cs1 u1 hl
      simp only [Option.some.injEq, Prod.mk.injEq] at h
      obtain ⟨rfl, rfl⟩ := h
      obtain ⟨h1, h2⟩ := AllP_append.1 hc
      split at hl
      · rename_i a1 ha1
        refine uniq_all hcalm (fun w => ?_) M.w
        obtain ⟨u, hu, hv⟩ := stConv_sound (P := P) hT hl (ev_sound hg hr h1 _ _ ha1) h2 w
        exact ⟨u, by simp only [execOp, ho, Sem.run_bind, hu, Result.andThen_ok, Sem.run_pure], hv⟩
      · cases hl
    · cases h
  case call c =>
    obtain ⟨callee, args, types⟩ := c
    split at h
    · rename_i cs1 u1 hl
      simp only [Option.some.injEq, Prod.mk.injEq] at h
      obtain ⟨rfl, rfl⟩ := h
      obtain ⟨h1, h2⟩ := AllP_append.1 hc
      split at hl
      · rename_i b hb
        simp only at hb
        subst hb
        refine uniq_all (by simpa using hcalm) (fun w => ?_) M.w
        obtain ⟨u, hu, hv⟩ := stBuiltin_sound (P := P) (ty := o.type) (consts := args.map fun | .const _ => true | _ => false) hT (ev_sound hg hr h1) hl w
        exact ⟨u, by simp only [execOp, ho, resolve, Sem.run_bind, Sem.run_pure, Result.andThen_ok, invoke]; exact hu, hv⟩
      · cases hl
    · cases h

/-- What is owed, operation by operation. -/
def insC (i : Nat) (cs : List Prop) : List (Nat × List Prop) → List (Nat × List Prop)
  | [] => [(i, cs)]
  | (k, c) :: r => cond (Nat.ble i k) ((i, cs) :: (k, c) :: r) ((k, c) :: insC i cs r)
def AllC : List (Nat × List Prop) → Prop
  | [] => True
  | (_, cs) :: r => AllP cs ∧ AllC r
theorem AllC_ins {i : Nat} {cs : List Prop} : ∀ {l : List (Nat × List Prop)}, AllC (insC i cs l) ↔ AllP cs ∧ AllC l
  | [] => Iff.rfl
  | (k, c) :: r => by
    unfold insC
    cases Nat.ble i k
    · simp only [cond_false, AllC, AllC_ins (l := r)]
      constructor
      · rintro ⟨h1, h2, h3⟩; exact ⟨h2, h1, h3⟩
      · rintro ⟨h1, h2, h3⟩; exact ⟨h2, h1, h3⟩
    · exact Iff.rfl

/-- Of a call: with what, what it hands back, the blocks that it leaves, and their numbers there and here. -/
structure CallI where
  args : List AV
  res : AV
  hr : Heap
  new : List (Nat × Nat)
abbrev Tab := List (Nat × CallI)

/-- A call whose value is known. -/
def stepCall (P : Program) (tab : Tab) (l : List Oper) (i : Nat) (s : St) (lent : Bool) : Option (List Prop × St) :=
  match preCall [] lent l i s, look i tab with
  | some p, some c =>
    (match c.new with
    | [] =>
      (match pureS lent l i p.g c.res s with
      | some s' => some ([p.g = true → (AllP p.cs ∧ p.args = c.args ∧ ACall P p.f c.args [] (fun v H => v = c.res ∧ H = []))], s')
      | none => none)
    | _ :: _ =>
      cond (p.g && (okR c.new && allBig c.new)) (match missS l i s, outS lent [] c.new l i c.res c.hr s with
      | some _, some s' => some ([AllP p.cs ∧ p.args = c.args ∧ ACall P p.f c.args [] (fun v H => v = c.res ∧ H = c.hr)], s')
      | _, _ => none) none)
  | _, _ => none

/-- The first operation that may be taken ahead of all others. -/
def firstU (T : Nat → Option TI) (ops : Array Oper) (listed : Array Bool) (s : St) : List Nat → Option (Nat × List Prop × St)
  | [] => none
  | i :: r =>
    (match ops[i]? with
    | some o =>
      (match guardOf ops s o.guard with
      | some g =>
        cond (calmOp o.op || calmDet o.op) (cond (Region.free .any ops listed i)
          (match stepRd T s g o.op, stepRdG T ops s o with
          | some (_, v), some (cs, s') => cond (isCalm o.op v) (some (i, cs, s')) (firstU T ops listed s r)
          | _, _ => firstU T ops listed s r) (firstU T ops listed s r)) (firstU T ops listed s r)
      | none => firstU T ops listed s r)
    | none => firstU T ops listed s r)

def stepAny (P : Program) (T : Nat → Option TI) (tab : Tab) (lent : Bool) (l : List Oper) (i : Nat) (s : St) : Option (List Prop × St) :=
  match l.drop i with
  | o :: _ => (match stepOp T l.toArray s o with | some r => some r | none => stepCall P tab l i s lent)
  | [] => none

abbrev Leaf := List (Nat × List Prop) × St
def branch (f : Nat → Option (List Leaf)) : List Nat → Option (List Leaf)
  | [] => some []
  | i :: r => (match f i, branch f r with | some x, some y => some (x ++ y) | _, _ => none)

/-- All orders: what is owed and what comes out, at the end of each. -/
def explore (P : Program) (T : Nat → Option TI) (tab : Tab) (lent : Bool) (l : List Oper) : Nat → Array Bool → List (Nat × List Prop) → St → Option (List Leaf)
  | 0, listed, cd, s => (match Region.ready .any l.toArray listed with | [] => some [(cd, s)] | _ :: _ => none)
  | n + 1, listed, cd, s =>
    (match Region.ready .any l.toArray listed with
    | [] => some [(cd, s)]
    | j :: r =>
      (match firstU T l.toArray listed s (j :: r) with
      | some (i, cs, s') => explore P T tab lent l n (listed.setIfInBounds i true) (insC i cs cd) s'
      | none => branch (fun i => (match stepAny P T tab lent l i s with
        | some (cs, s') => explore P T tab lent l n (listed.setIfInBounds i true) (insC i cs cd) s'
        | none => none)) (j :: r)))

def QN (Q : Exit → Act → World → Prop) : Exit → Act → World → Prop := fun e a w => e = .normal ∧ Q .normal a w

theorem drop_at {l : List Oper} {i : Nat} {o : Oper} {r : List Oper} (h : l.drop i = o :: r) : l.toArray[i]? = some o := by
  have : (l.drop i)[0]? = some o := by rw [h]; rfl
  simpa using this

theorem wpOp_of_ok {l : List Oper} {i : Nat} {Q : Exit → Act → World → Prop} {Kx : Act → World → Prop} {a : Act} {w : World} (h : OpOk P l i Q Kx a w) : wpOp P l.toArray Q i Kx a w := by
  unfold OpOk at h
  split at h
  · rename_i o r hl
    unfold wpOp
    rw [drop_at hl]
    exact h
  · exact h.elim

/-- What one operation does, in the words of the orders. -/
theorem stepAny_sound {l : List Oper} {tab : Tab} {lent : Bool} {i : Nat} {cs : List Prop} (hT : ∀ t i, T t = some i → TF P t i) (h : stepAny P T tab lent l i s = some (cs, s')) (hc : AllP cs) {M : Mem} {a : Act} {Kx : Act → World → Prop} {Q : Exit → Act → World → Prop} (hr : Rel M s a)
    (hk : ∀ M' a', Ext big M M' → Rel M' s' a' → Kx a' M'.w) : wpOp P l.toArray Q i Kx a M.w := by
  unfold stepAny at h
  split at h
  · rename_i o r hl
    split at h
    · rename_i r0 h0
      cases h
      refine wpOp_of_ok ?_
      unfold OpOk
      rw [hl]
      simp only
      rcases stepOp_sound (P := P) hT h0 hc hr with ⟨hw, hr'⟩ | ⟨hw, n, M', u, hrun, hext, hr', hn⟩
      · rw [if_neg (by rw [hw]; decide)]
        exact hk M _ (Ext.refl _ _) hr'
      · rw [if_pos hw]
        refine .inl ?_
        unfold Oper.wp
        rw [hrun]
        rcases hn with rfl | ⟨rfl, rfl⟩
        · exact hk M' _ hext hr'
        · exact hk M' _ hext hr'
    · unfold stepCall at h
      split at h
      · rename_i p c hp htab
        split at h
        · split at h
          · rename_i s1 hs1
            cases h
            have hcond := hc.1
            exact wpOp_of_ok (pure_op lent p c.args c.res _ hp hs1 (fun hg => (hcond hg).1) (fun hg => (hcond hg).2.1) (fun hg => (hcond hg).2.2) hr hk)
          · cases h
        · cases hb : (p.g && (okR c.new && allBig c.new))
          · rw [hb] at h; cases h
          · rw [hb] at h
            simp only [cond_true] at h
            simp only [Bool.and_eq_true] at hb
            split at h
            · rename_i sm s1 hm hs1
              cases h
              obtain ⟨h1, h2, h3⟩ := hc.1
              have hin : p.hin = [] := by
                unfold preCall at hp
                split at hp
                · split at hp
                  · split at hp
                    · split at hp
                      · rename_i e1 e2 e3
                        simp only [inH, Option.some.injEq] at e3
                        cases hp
                        exact e3.symm
                      · cases hp
                    · cases hp
                  · cases hp
                · cases hp
              refine wpOp_of_ok (call_op (Φ := fun v H => v = c.res ∧ H = c.hr) [] c.new lent p c.args hp hm (by simp only [List.nil_append, hb.2.1, hb.2.2]; rfl) (fun _ => h1) h2 (fun _ => by rw [hin]; exact h3) hr (fun _ v Hr hvH => ?_) (fun hg => by rw [hb.1] at hg; cases hg))
              obtain ⟨rfl, rfl⟩ := hvH
              exact ⟨_, hs1, hk⟩
            · cases h
      · cases h
  · cases h

theorem firstU_sound {ops : Array Oper} {listed : Array Bool} {i : Nat} {cs : List Prop} : ∀ {r : List Nat}, firstU T ops listed s r = some (i, cs, s') → i ∈ r ∧ ∃ o, ops[i]? = some o ∧ Region.free .any ops listed i = true ∧
    ∃ g c v, guardOf ops s o.guard = some g ∧ stepRd T s g o.op = some (c, v) ∧ stepRdG T ops s o = some (cs, s') ∧ isCalm o.op v = true
  | [], h => by cases h
  | j :: r, h => by
    have rec_ : firstU T ops listed s r = some (i, cs, s') → i ∈ j :: r ∧ _ := fun h => ⟨List.mem_cons_of_mem _ (firstU_sound h).1, (firstU_sound h).2⟩
    unfold firstU at h
    split at h
    · rename_i o ho
      split at h
      · rename_i g hg
        cases hb1 : (calmOp o.op || calmDet o.op)
        · rw [hb1] at h; exact rec_ h
        · rw [hb1] at h
          simp only [cond_true] at h
          cases hb2 : Region.free .any ops listed j
          · rw [hb2] at h; exact rec_ h
          · rw [hb2] at h
            simp only [cond_true] at h
            split at h
            · rename_i c v cs1 s1 h1 h2
              cases hb3 : isCalm o.op v
              · rw [hb3] at h; exact rec_ h
              · rw [hb3] at h
                simp only [cond_true, Option.some.injEq, Prod.mk.injEq] at h
                obtain ⟨rfl, rfl, rfl⟩ := h
                exact ⟨List.mem_cons_self, o, ho, hb2, g, c, v, hg, h1, h2, hb3⟩
            · exact rec_ h
      · exact rec_ h
    · exact rec_ h

/-- An operation that may be taken first yields one value in every world. -/
theorem first_yields {ops : Array Oper} {o : Oper} {g : Bool} {c cs : List Prop} {v : AV} {M : Mem} {a : Act} (hT : ∀ t i, T t = some i → TF P t i) (hgo : guardOf ops s o.guard = some g) (hrd : stepRd T s g o.op = some (c, v)) (hst : stepRdG T ops s o = some (cs, s')) (hcalm : isCalm o.op v = true) (hc : AllP cs) (hr : Rel M s a) :
    ∃ u, Yields P ops o u a ∧ Rel M s' (a.put o.dst u) := by
  have hw := guard_sound hr hgo
  unfold stepRdG at hst
  split at hst
  · rename_i hg
    rw [hg] at hgo
    cases hgo
    rw [hrd] at hst
    simp only at hst
    split at hst
    · rename_i tm htm
      cases hst
      obtain ⟨u, hu, hv⟩ := calm_sound (P := P) hT rfl hr hrd hc hcalm
      exact ⟨u, .inl ⟨hw, hu⟩, hr.put htm hv⟩
    · cases hst
  · rename_i gd hg
    rw [hg] at hgo
    rw [hgo] at hst
    simp only at hst
    rw [hrd] at hst
    simp only at hst
    split at hst
    · rename_i tm htm
      cases hst
      cases hgb : g
      · subst hgb
        exact ⟨undef, .inr ⟨hw, rfl⟩, hr.put htm ⟨fun h => (by cases h), fun _ => rfl⟩⟩
      · obtain ⟨u, hu, hv⟩ := calm_sound (P := P) hT hgb hr hrd (whnAll_true hgb hc) hcalm
        exact ⟨u, .inl ⟨by rw [hw, hgb], hu⟩, hr.put htm ⟨fun _ => hv, fun h => by rw [hgb] at h; cases h⟩⟩
    · cases hst

theorem branch_mem {f : Nat → Option (List Leaf)} : ∀ {r : List Nat} {ls : List Leaf}, branch f r = some ls → ∀ i ∈ r, ∃ x, f i = some x ∧ ∀ y ∈ x, y ∈ ls
  | [], _, _, i, hi => by cases hi
  | j :: r, ls, h, i, hi => by
    unfold branch at h
    split at h
    · rename_i x y hx hy
      cases h
      rcases List.mem_cons.1 hi with rfl | hi
      · exact ⟨x, hx, fun z hz => List.mem_append_left _ hz⟩
      · obtain ⟨z, hz, hm⟩ := branch_mem hy i hi
        exact ⟨z, hz, fun q hq => List.mem_append_right _ (hm q hq)⟩
    · cases h

theorem leaf_some {tab : Tab} {lent : Bool} {l : List Oper} : ∀ {n : Nat} {listed : Array Bool} {cd : List (Nat × List Prop)} {s : St} {ls : List Leaf}, explore P T tab lent l n listed cd s = some ls → ∃ y ∈ ls, AllC y.1 → AllC cd := by
  intro n
  induction n with
  | zero =>
    intro listed cd s ls h
    unfold explore at h
    split at h
    · cases h; exact ⟨_, List.mem_cons_self, fun h => h⟩
    · cases h
  | succ n ih =>
    intro listed cd s ls h
    unfold explore at h
    split at h
    · cases h; exact ⟨_, List.mem_cons_self, fun h => h⟩
    · rename_i j r hrd
      split at h
      · obtain ⟨y, hy, hc⟩ := ih h
        exact ⟨y, hy, fun h => (AllC_ins.1 (hc h)).2⟩
      · obtain ⟨x, hx, hm⟩ := branch_mem h j List.mem_cons_self
        split at hx
        · obtain ⟨y, hy, hc⟩ := ih hx
          exact ⟨y, hm y hy, fun h => (AllC_ins.1 (hc h)).2⟩
        · cases hx

theorem explore_sound {tab : Tab} {lent : Bool} {l : List Oper} {M0 : Mem} {Q : Exit → Act → World → Prop} (hT : ∀ t i, T t = some i → TF P t i) (hsel : Region.noSelect l.toArray = true) :
    ∀ (n : Nat) (listed : Array Bool) (cd : List (Nat × List Prop)) (s : St) (ls : List Leaf), explore P T tab lent l n listed cd s = some ls → (∀ y ∈ ls, AllC y.1 ∧ ∀ M a, Ext big M0 M → Rel M y.2 a → Q .normal a M.w) → ∀ M a, Ext big M0 M → Rel M s a → wpAny P .any l.toArray (QN Q) n listed a M.w := by
  intro n
  induction n with
  | zero =>
    intro listed cd s ls h hq M a he hr
    unfold explore at h
    split at h
    · rename_i hrd
      cases h
      exact ⟨hrd, rfl, (hq _ List.mem_cons_self).2 M a he hr⟩
    · cases h
  | succ n ih =>
    intro listed cd s ls h hq M a he hr
    unfold explore at h
    split at h
    · rename_i hrd
      cases h
      exact ⟨fun _ => ⟨rfl, (hq _ List.mem_cons_self).2 M a he hr⟩, fun i hi => (by rw [hrd] at hi; cases hi)⟩
    · rename_i j r hrd
      split at h
      · rename_i i cs s1 hf
        obtain ⟨hi, o, ho, hfree, g, c, v, hg, h1, h2, h3⟩ := firstU_sound hf
        rw [← hrd] at hi
        obtain ⟨y, hy, hyc⟩ := leaf_some h
        have hcs := (AllC_ins.1 (hyc (hq y hy).1)).1
        obtain ⟨u, hyl, hr1⟩ := first_yields (P := P) hT hg h1 h2 h3 hcs hr
        exact wpAny_first ho (Region.noSelect_spec hsel) (fun c a w h => by cases h.1) n listed a M.w (Region.free_spec ho hfree) hi hyl (ih _ _ _ _ h hq M _ he hr1)
      · refine ⟨fun h0 => (by rw [hrd] at h0; cases h0), fun i hi => ?_⟩
        rw [hrd] at hi
        obtain ⟨x, hx, hm⟩ := branch_mem h i hi
        split at hx
        · rename_i cs s1 hst
          obtain ⟨y, hy, hyc⟩ := leaf_some hx
          have hcs := (AllC_ins.1 (hyc (hq y (hm y hy)).1)).1
          exact stepAny_sound hT hst hcs hr fun M' a' he' hr' => ih _ _ _ _ hx (fun z hz => hq z (hm z hz)) M' a' (he.trans he') hr'
        · cases hx

def exploreCut (P : Program) (T : Nat → Option TI) (tab : Tab) (lent : Bool) (l : List Oper) (ks hs : List Nat) (s : St) : Option (List Leaf) :=
  match explore P T tab lent l l.length (Array.replicate l.length false) [] s with
  | some ls => some (ls.map fun y => (y.1, cutS ks hs y.2))
  | none => none

/-- A region that draws its order: every order comes to one end. -/
theorem awp_any {id : Nat} {l : List Oper} (tab : Tab) (lent : Bool) (ks hs : List Nat) (n : Nat) (cs : List (Nat × List Prop)) (s' : St) (hm : P.follows .mixedOrders = true) (hsel : Region.noSelect l.toArray = true) (hT : ∀ t i, T t = some i → TF P t i) (h : exploreCut P T tab lent l ks hs s = some (List.replicate n (cs, s'))) (hc : AllC cs) (hk : K .normal s') :
    AWp P (.region id l.toArray true) K s := ⟨fun M0 M a he hr => by
  unfold exploreCut at h
  split at h
  · rename_i ls hls
    simp only [Option.some.injEq] at h
    have hall : ∀ y ∈ ls, AllC y.1 ∧ ∀ M a, Ext big M0 M → Rel M y.2 a → Qc K M0 .normal a M.w := by
      intro y hy
      have hmem : (y.1, cutS ks hs y.2) ∈ List.replicate n (cs, s') := by
        rw [← h]
        exact List.mem_map_of_mem (f := fun y : Leaf => (y.1, cutS ks hs y.2)) hy
      have heq := List.eq_of_mem_replicate hmem
      simp only [Prod.mk.injEq] at heq
      refine ⟨by rw [heq.1]; exact hc, fun M a he hr => ?_⟩
      obtain ⟨M', h3, h4, h5⟩ := awk_cut ks hs y.2 M a hr
      rw [heq.2] at h3
      exact ⟨s', M', hk, h3, h4, he.trans h5⟩
    have hex := explore_sound (M0 := M0) (Q := Qc K M0) hT hsel l.length _ [] s ls hls hall M.drawn a (he.trans ((drawn_ext M).mono fun x hx => by cases hx)) (drawn_rel hr)
    refine wp_mono (wp_region_any (Q := QN (Qc K M0)) hm (by simp only [List.size_toArray]; exact hex)) fun e a w hq => ?_
    obtain ⟨rfl, hq⟩ := hq
    exact hq
  · cases h⟩
end
end Go.Ab
