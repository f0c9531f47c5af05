/- The abstract machine, part 14: a function's contract, how it is shown, and how a call uses it. -/
import Derived.Test.YtdglhalkilneaaaAb13
namespace Go.Ab

def ArgsR (M : Mem) (vs : List AV) (us : List Value) : Prop := us.length = vs.length ∧ ∀ (i : Nat) (v : AV), vs[i]? = some v → ∃ u, us[i]? = some u ∧ AVR M v u

/-- Called with such values, in a memory with such blocks of its own, the function hands back a value and leaves blocks of which Φ holds. -/
structure ACall (P : Program) (f : FuncId) (args : List AV) (Hin : Heap) (Φ : AV → Heap → Prop) : Prop where
  fn : ∃ fn, P.funcs[f]? = some fn ∧ (fn.name == "runtime.NumGoroutine") = false ∧ fn.body.isNone = false
  run : ∀ M us, M.H = Hin → MOk M → ArgsR M args us → Calls P f us.toArray M.w (fun e w' => ∃ v u M', e = .returned u ∧ Φ v M'.H ∧ AVR M' v u ∧ MOk M' ∧ M'.w = w' ∧ Ext big M M')

theorem ACall.mono {P : Program} {f : FuncId} {args : List AV} {Hin : Heap} {Φ Ψ : AV → Heap → Prop} (h : ACall P f args Hin Φ) (k : ∀ v H, Φ v H → Ψ v H) : ACall P f args Hin Ψ :=
  ⟨h.fn, fun M us hH hM ha => (h.run M us hH hM ha).mono fun _e _w' ⟨v, u, M', h1, h2, h3⟩ => ⟨v, u, M', h1, k _ _ h2, h3⟩⟩

/-- What is handed back is read in another way. -/
theorem ACall.weak {P : Program} {f : FuncId} {args : List AV} {Hin : Heap} {Φ Ψ : AV → Heap → Prop} (h : ACall P f args Hin Φ) (k : ∀ v H, Φ v H → ∃ v' H', AWk ⟨1, [(0, v)], H⟩ ⟨1, [(0, v')], H'⟩ ∧ Ψ v' H') : ACall P f args Hin Ψ :=
  ⟨h.fn, fun M us hH hM ha => (h.run M us hH hM ha).mono fun e w' hq => by
    obtain ⟨v, u, M', rfl, hΦ, hv, hok, hw, he⟩ := hq
    obtain ⟨v', H', hwk, hΨ⟩ := k _ _ hΦ
    have hrel : Rel M' ⟨1, [(0, v)], M'.H⟩ ⟨#[u], []⟩ := by
      refine ⟨rfl, hok, rfl, rfl, fun d x hd => ?_⟩
      match d, hd with
      | 0, hd => cases hd; exact ⟨u, rfl, hv⟩
      | d + 1, hd => cases hd
    obtain ⟨M2, hr2, hw2, he2⟩ := hwk M' ⟨#[u], []⟩ hrel
    obtain ⟨u', hu', hv'⟩ := hr2.tm 0 v' rfl
    cases hu'
    exact ⟨v', u, M2, rfl, by rw [hr2.hp]; exact hΨ, hv', hr2.ok, hw2.trans hw, he.trans he2⟩⟩

/-! ### What a function hands back -/
def resE : AV → Option (Bool × List V1)
  | .one v => some (false, [v])
  | .agg vs => some (true, vs)
  | _ => none
/-- A result: what lies in a slot, or in the block that a slot points to. -/
def resT (T : Nat → Option TI) (s : St) : ResultVar → Option (List Prop × (Bool × List V1))
  | .tmp t => (match (look t s.tm).bind resE with | some e => some ([], e) | none => none)
  | .cell t ty => (match look t s.tm with
    | some a => (match stLoad T s.hp ty a with
      | some (cs, v) => (match resE v with | some e => some (cs, e) | none => none)
      | none => none)
    | none => none)
def resA : Bool × List V1 → Option AV
  | (true, vs) => some (.agg vs)
  | (false, [v]) => some (.one v)
  | _ => none
def resOf (T : Nat → Option TI) (s : St) : List ResultVar → Option (List Prop × AV)
  | [] => some ([], .tup [])
  | [a] => (match resT T s a with | some (cs, x) => (match resA x with | some v => some (cs, v) | none => none) | none => none)
  | [a, b] => (match resT T s a, resT T s b with | some (c1, x), some (c2, y) => some (c1 ++ c2, .tup [x, y]) | _, _ => none)
  | [a, b, c] => (match resT T s a, resT T s b, resT T s c with | some (c1, x), some (c2, y), some (c3, z) => some (c1 ++ (c2 ++ c3), .tup [x, y, z]) | _, _, _ => none)
  | _ => none
/-- The result, and the blocks that are still spoken of behind the return. -/
def resCut (T : Nat → Option TI) (s : St) (rs : List ResultVar) (hs : List Nat) : Option (List Prop × AV × Heap) :=
  match resOf T s rs with
  | some (cs, v) => (match cutS [0] hs ⟨1, [(0, v)], s.hp⟩ with
    | ⟨_, [(_, v')], H⟩ => some (cs, v', H)
    | _ => none)
  | none => none

section
variable {P : Program} {T : Nat → Option TI} {M : Mem} {s : St} {a : Act}

def resF (tmps : Array Value) : ResultVar → Sem Value
  | .tmp t => pure (tmps.getD t undef)
  | .cell a t => do loadVar t (← asAddr (tmps.getD a undef))

theorem resE_sound {v : AV} {e : Bool × List V1} {u : Value} (h : resE v = some e) (hv : AVR M v u) : ER M e u := by
  cases v with
  | one v => cases h; exact hv
  | agg vs => cases h; exact hv
  | tup es => cases h
  | whn g v => cases h

theorem resT_sound {r : ResultVar} {cs : List Prop} {e : Bool × List V1} (hT : ∀ t i, T t = some i → TF P t i) (hr : Rel M s a) (h : resT T s r = some (cs, e)) (hc : AllP cs) : ∃ u, (resF a.tmps r).run P M.w = .ok u M.w ∧ ER M e u := by
  cases r with
  | tmp t =>
    simp only [resT] at h
    cases hl : look t s.tm with
    | none => rw [hl] at h; cases h
    | some v =>
      rw [hl] at h
      obtain ⟨u, hu, hv⟩ := hr.tm t v hl
      refine ⟨u, by simp [resF, hu], ?_⟩
      simp only [Option.bind_some] at h
      split at h
      · rename_i e' he
        cases h
        exact resE_sound he hv
      · cases h
  | cell t ty =>
    simp only [resT] at h
    cases hl : look t s.tm with
    | none => rw [hl] at h; cases h
    | some v =>
      rw [hl] at h
      obtain ⟨u, hu, hv⟩ := hr.tm t v hl
      simp only at h
      split at h
      · rename_i cs1 v1 hld
        split at h
        · rename_i e' he
          cases h
          rw [← hr.hp] at hld
          obtain ⟨u1, hrun, hv1⟩ := stLoad_sound (P := P) hT hr.ok hld hv hc
          refine ⟨u1, ?_, resE_sound he hv1⟩
          have hget : a.tmps.getD t undef = u := by simp [hu]
          simp only [resF, hget]
          -- the address that is loaded from is a place
          unfold stLoad at hld
          split at hld
          · rename_i v0
            split at hld
            · rename_i ti own n z f i j hti hin
              obtain ⟨_, b, p, rfl, _⟩ := ptrInto_sound hr.ok hin hv
              simpa [Instr.loadAt, Instr.sureAddr, asAddr] using hrun
            · cases hld
          · cases hld
        · cases h
      · cases h

theorem tup_sound {es : List (Bool × List V1)} {us : List Value} (hl : us.length = es.length) (h : ∀ (i : Nat) (e : Bool × List V1), es[i]? = some e → ∃ x, us[i]? = some x ∧ ER M e x) : AVR M (.tup es) (.tuple us.toArray) := ⟨us, rfl, hl, h⟩

theorem results_resF {fn : Func} {rs : List ResultVar} (hfn : fn.results = rs.toArray) (tmps : Array Value) : results fn tmps = (do
    let vs ← rs.toArray.mapM (resF tmps)
    pure (if h : vs.size = 1 then vs[0] else .tuple vs)) := by
  rw [← hfn]; rfl

theorem resOf_sound {fn : Func} {rs : List ResultVar} {cs : List Prop} {v : AV} (hT : ∀ t i, T t = some i → TF P t i) (hfn : fn.results = rs.toArray) (hr : Rel M s a) (h : resOf T s rs = some (cs, v)) (hc : AllP cs) : ∃ u, (results fn a.tmps).run P M.w = .ok u M.w ∧ AVR M v u := by
  rw [results_resF hfn]
  unfold resOf at h
  split at h
  · cases h
    exact ⟨.tuple #[], by simp, ⟨[], rfl, rfl, fun i e hi => by simp at hi⟩⟩
  · rename_i r
    split at h
    · rename_i cs1 x hx
      split at h
      · rename_i v1 hv1
        cases h
        obtain ⟨u, hu, hv⟩ := resT_sound (P := P) hT hr hx hc
        refine ⟨u, by simp [hu], ?_⟩
        match x, hv1, hv with
        | (true, vs), hv1, hv => cases hv1; exact hv
        | (false, [q]), hv1, hv => cases hv1; exact hv
      · cases h
    · cases h
  · rename_i r1 r2
    split at h
    · rename_i c1 x c2 y hx hy
      cases h
      obtain ⟨k1, k2⟩ := AllP_append.1 hc
      obtain ⟨u1, h1, v1⟩ := resT_sound (P := P) hT hr hx k1
      obtain ⟨u2, h2, v2⟩ := resT_sound (P := P) hT hr hy k2
      refine ⟨.tuple #[u1, u2], by simp [h1, h2], ⟨[u1, u2], rfl, rfl, fun i e hi => ?_⟩⟩
      match i, hi with
      | 0, hi => cases hi; exact ⟨_, rfl, v1⟩
      | 1, hi => cases hi; exact ⟨_, rfl, v2⟩
      | i + 2, hi => simp at hi
    · cases h
  · rename_i r1 r2 r3
    split at h
    · rename_i c1 x c2 y c3 z hx hy hz
      cases h
      obtain ⟨k1, k2⟩ := AllP_append.1 hc
      obtain ⟨k2, k3⟩ := AllP_append.1 k2
      obtain ⟨u1, h1, v1⟩ := resT_sound (P := P) hT hr hx k1
      obtain ⟨u2, h2, v2⟩ := resT_sound (P := P) hT hr hy k2
      obtain ⟨u3, h3, v3⟩ := resT_sound (P := P) hT hr hz k3
      refine ⟨.tuple #[u1, u2, u3], by simp [h1, h2, h3], ⟨[u1, u2, u3], rfl, rfl, fun i e hi => ?_⟩⟩
      match i, hi with
      | 0, hi => cases hi; exact ⟨_, rfl, v1⟩
      | 1, hi => cases hi; exact ⟨_, rfl, v2⟩
      | 2, hi => cases hi; exact ⟨_, rfl, v3⟩
      | i + 3, hi => simp at hi
    · cases h
  · cases h
end

/-! ### How a contract is shown -/
def numS : Nat → List AV → List (Nat × AV)
  | _, [] => []
  | k, v :: r => (k, v) :: numS (k + 1) r
theorem look_numS (d : Nat) : ∀ (vs : List AV) (k : Nat) (v : AV), look d (numS k vs) = some v → k ≤ d ∧ vs[d - k]? = some v
  | [], _, _, h => by cases h
  | x :: r, k, v, h => by
    unfold numS look at h
    by_cases hk : k = d
    · subst hk
      rw [beq_self] at h
      cases h
      exact ⟨Nat.le_refl _, by simp⟩
    · rw [beq_ne hk] at h
      obtain ⟨h1, h2⟩ := look_numS d r (k + 1) v h
      refine ⟨by omega, ?_⟩
      have : d - k = (d - (k + 1)) + 1 := by omega
      rw [this]
      simpa using h2

inductive kRet (T : Nat → Option TI) (rs : List ResultVar) (Φ : AV → Heap → Prop) : Exit → St → Prop where
  | normal (s : St) (hs : List Nat) (cs : List Prop) (v : AV) (H : Heap) (h : resCut T s rs hs = some (cs, v, H)) (hc : AllP cs) (k : Φ v H) : kRet T rs Φ .normal s
  | ret (s : St) (hs : List Nat) (cs : List Prop) (v : AV) (H : Heap) (h : resCut T s rs hs = some (cs, v, H)) (hc : AllP cs) (k : Φ v H) : kRet T rs Φ .ret s

theorem acall_intro {P : Program} {T : Nat → Option TI} {f : FuncId} {fn : Func} {c : Code} {args : List AV} {Hin : Heap} {rs : List ResultVar} {Φ : AV → Heap → Prop} (hT : ∀ t i, T t = some i → TF P t i) (hf : P.funcs[f]? = some fn) (hb : fn.body = some c) (hnm : (fn.name == "runtime.NumGoroutine") = false) (hrs : fn.results = rs.toArray)
    (hn : Nat.ble args.length fn.ntmps = true) (h : AWp P c (kRet T rs Φ) ⟨fn.ntmps, numS 0 args, Hin⟩) : ACall P f args Hin Φ := by
  refine ⟨⟨fn, hf, hnm, by rw [hb]; rfl⟩, fun M us hH hM ha => ?_⟩
  have hle := Nat.le_of_ble_eq_true hn
  refine calls_of_wp hf hb ?_
  have hrel : Rel M ⟨fn.ntmps, numS 0 args, Hin⟩ { tmps := us.toArray ++ Array.replicate (fn.ntmps - us.toArray.size) undef, defers := [] } := by
    refine ⟨hH, hM, rfl, by simp [ha.1]; omega, fun d v hd => ?_⟩
    obtain ⟨_, h2⟩ := look_numS d args 0 v hd
    obtain ⟨u, hu, hv⟩ := ha.2 d v h2
    refine ⟨u, ?_, hv⟩
    have hlt := (List.getElem?_eq_some_iff.1 hu).1
    rw [Array.getElem?_append_left (by simpa using hlt)]
    simpa using hu
  refine wp_mono (h.run M M _ (Ext.refl _ _) hrel) fun e a w hq => ?_
  obtain ⟨s, M', h1, h2, h3, h4⟩ := hq
  subst h3
  rcases h1 with ⟨_, hs, cs, v, H, hv, hc, hΦ⟩ | ⟨_, hs, cs, v, H, hv, hc, hΦ⟩
  all_goals
    unfold resCut at hv
    split at hv
    · rename_i cs1 v1 h5
      split at hv
      · rename_i n0 d0 v2 H2 hcut
        cases hv
        obtain ⟨u, hu, hvu⟩ := resOf_sound (P := P) hT hrs h2 h5 hc
        have hrel1 : Rel M' ⟨1, [(0, v1)], s.hp⟩ ⟨#[u], []⟩ := by
          refine ⟨h2.hp, h2.ok, rfl, rfl, fun d x hd => ?_⟩
          match d, hd with
          | 0, hd => cases hd; exact ⟨u, rfl, hvu⟩
          | d + 1, hd => cases hd
        obtain ⟨M2, hr2, hw2, he2⟩ := awk_cut [0] hs _ M' _ hrel1
        rw [hcut] at hr2
        have hd0 : d0 = 0 := by
          simp only [cutS, keepN, St.mk.injEq] at hcut
          obtain ⟨_, h7, _⟩ := hcut
          simp only [hasN] at h7
          cases h7
          rfl
        subst hd0
        obtain ⟨u', hu', hv'⟩ := hr2.tm 0 _ rfl
        cases hu'
        exact ⟨h2.defers, u, hu, v, u, M2, rfl, by rw [hr2.hp]; exact hΦ, hv', hr2.ok, hw2, h4.trans he2⟩
      · cases hv
    · cases hv

/-! ### What a state tells of lengths -/
def cellAt (s : St) (d k : Nat) : Option V1 := ((look d s.tm).bind AV.cells).bind (·[k]?)
theorem cellAt_sound {M : Mem} {s : St} {a : Act} {d k : Nat} {v : V1} (hr : Rel M s a) (h : cellAt s d k = some v) : ∃ u, VR M v u := by
  unfold cellAt at h
  simp only [Option.bind_eq_some_iff] at h
  obtain ⟨vs, ⟨x, hx, hc⟩, hv⟩ := h
  obtain ⟨u, _, hu⟩ := hr.tm d x hx
  obtain ⟨w, _, hw⟩ := (CellsR_cells hu hc).2 k v hv
  exact ⟨w, hw⟩
theorem awp_len {P : Program} {c : Code} {K : Post} {s : St} (d k : Nat) (x : C0) (h : cellAt s d k = some (.ro x)) (hk : x.len ≤ maxLen → AWp P c K s) : AWp P c K s := ⟨fun M0 M a he hr => by
  obtain ⟨u, hu⟩ := cellAt_sound hr h
  obtain ⟨A, cap, _, h1, h2, _⟩ := (show M.roSl _ _ _ _ from hu)
  exact (hk (Nat.le_trans h1 h2)).run M0 M a he hr⟩
theorem awp_len1 {P : Program} {c : Code} {K : Post} {s : St} (d k : Nat) (x : C1) (h : cellAt s d k = some (.rs x)) (hk : x.len ≤ maxLen → AWp P c K s) : AWp P c K s := ⟨fun M0 M a he hr => by
  obtain ⟨u, hu⟩ := cellAt_sound hr h
  obtain ⟨A, cap, _, h1, h2, _⟩ := (show M.roSl _ _ _ _ from hu)
  exact (hk (Nat.le_trans h1 h2)).run M0 M a he hr⟩
theorem awp_len2 {P : Program} {c : Code} {K : Post} {s : St} (d k : Nat) (xs : List (List Int)) (h : cellAt s d k = some (.rs (.rows xs))) (hk : (∀ r ∈ xs, r.length ≤ maxLen) → AWp P c K s) : AWp P c K s := ⟨fun M0 M a he hr => by
  obtain ⟨u, hu⟩ := cellAt_sound hr h
  obtain ⟨A, cap, _, h1, h2, h3⟩ := (show M.roSl _ _ _ _ from hu)
  refine (hk fun r hr' => ?_).run M0 M a he hr
  obtain ⟨i, hi, rfl⟩ := List.mem_iff_getElem.1 hr'
  rcases h3 with h3 | ⟨b, off, _, h4⟩
  · have : xs.length = 0 := h3
    omega
  · obtain ⟨w, _, hw⟩ := h4.2 i hi 0 (Nat.zero_lt_one)
    obtain ⟨A', cap', _, k1, k2, _⟩ := (show M.roSl _ _ _ _ from hw)
    have e : xs.getD i [] = xs[i] := by simp [List.getD_eq_getElem?_getD, List.getElem?_eq_getElem hi]
    have k1' : (xs.getD i []).length ≤ cap' := k1
    rw [e] at k1'
    exact Nat.le_trans k1' k2⟩

/-! ### A call -/
def rawL (ev : Operand → Option AV) : List Operand → Option (List AV)
  | [] => some []
  | x :: r => (match ev x, rawL ev r with | some v, some vs => some (v :: vs) | _, _ => none)

structure Pre where
  g : Bool
  cs : List Prop
  f : FuncId
  args : List AV
  hin : Heap

def preCall (ρ : List (Nat × Nat)) (lent : Bool) (l : List Oper) (k : Nat) (s : St) : Option Pre :=
  match l.drop k with
  | o :: _ =>
    (match guardOf l.toArray s o.guard, o.op with
    | some g, .call c =>
      (match c.callee with
      | .value x =>
        (match s.ev g (tmpsOf (x :: c.args.toList)) x, rawL (s.ev g (tmpsOf (x :: c.args.toList))) c.args.toList, inH s.hp (inV ρ s.hp lent) ρ with
        | some (.one (.fn f caps)), some avs, some h => some ⟨g, s.owed g (tmpsOf (x :: c.args.toList)), f, (avs ++ caps.map AV.one).map (liftA (inV ρ s.hp lent)), h⟩
        | _, _, _ => none)
      | _ => none)
    | _, _ => none)
  | [] => none

def outS (lent : Bool) (ρ new : List (Nat × Nat)) (l : List Oper) (k : Nat) (v : AV) (Hr : Heap) (s : St) : Option St :=
  match l.drop k with
  | o :: _ =>
    (match outH Hr lent (outV (ρ ++ new) lent) (ρ ++ new) (mapV (clrO (newN new)) s.hp) with
    | some H2 =>
      (match putD o.dst (liftA (outV (ρ ++ new) lent) v) s.n (mapV (clrA (newN new)) s.tm) with
      | some tm => some ⟨s.n, tm, H2⟩
      | none => none)
    | none => none)
  | [] => none
def missS (l : List Oper) (k : Nat) (s : St) : Option St :=
  match l.drop k with
  | o :: _ => (match putD o.dst (.whn false (.one .any)) s.n s.tm with | some tm => some ⟨s.n, tm, s.hp⟩ | none => none)
  | [] => none

section
variable {P : Program} {K : Post} {s : St}

theorem rawL_sound {M : Mem} {ev : Operand → Option AV} {ρ : Operand → Value} (hev : ∀ x v, ev x = some v → AVR M v (ρ x)) : ∀ {xs : List Operand} {vs : List AV}, rawL ev xs = some vs → ArgsR M vs (xs.map ρ)
  | [], vs, h => by
    simp only [rawL, Option.some.injEq] at h
    subst h
    exact ⟨rfl, fun i v hi => by simp at hi⟩
  | x :: r, vs, h => by
    unfold rawL at h
    split at h
    · rename_i v vs' hv hr
      cases h
      obtain ⟨h1, h2⟩ := rawL_sound hev hr
      refine ⟨by simp [h1], fun i v' hi => ?_⟩
      match i, hi with
      | 0, hi => cases hi; exact ⟨_, rfl, hev x v hv⟩
      | i + 1, hi => exact h2 i v' (by simpa using hi)
    · cases h

theorem ArgsR.app {M : Mem} {vs vs' : List AV} {us us' : List Value} (h : ArgsR M vs us) (h' : ArgsR M vs' us') : ArgsR M (vs ++ vs') (us ++ us') := by
  refine ⟨by simp [h.1, h'.1], fun i v hi => ?_⟩
  by_cases hlt : i < vs.length
  · rw [List.getElem?_append_left hlt] at hi
    rw [List.getElem?_append_left (by rw [h.1]; exact hlt)]
    exact h.2 i v hi
  · rw [List.getElem?_append_right (by omega)] at hi
    rw [List.getElem?_append_right (by rw [h.1]; omega), h.1]
    exact h'.2 _ v hi
theorem ArgsR.lift {M M' : Mem} {f : V1 → V1} {vs : List AV} {us : List Value} (ht : Turns f M M') (h : ArgsR M vs us) : ArgsR M' (vs.map (liftA f)) us := by
  refine ⟨by simp [h.1], fun i v hi => ?_⟩
  simp only [List.getElem?_map, Option.map_eq_some_iff] at hi
  obtain ⟨v0, h0, rfl⟩ := hi
  obtain ⟨u, hu, hv⟩ := h.2 i v0 h0
  exact ⟨u, hu, AVR_lift ht hv⟩

theorem VM_VR {M : Mem} {v : V1} {u : Value} (h : VM M v u) : VR M v u := by
  cases v <;> first | exact h | exact h.elim

/-- The run of a call's operation. -/
theorem run_call {ρ : Operand → Value} {o : Oper} {c : Call} {x : Operand} {f : FuncId} {cs : List Value} {fn : Func} (ho : o.op = .call c) (hc : c.callee = .value x) (hx : ρ x = .func (.func f) #[] cs.toArray) (hfn : P.funcs[f]? = some fn) (hnm : (fn.name == "runtime.NumGoroutine") = false) (hb : fn.body.isNone = false) (w : World) :
    (execOp ρ o).run P w = .ok (.enter f (c.args.map ρ ++ cs.toArray)) w := by
  have hnm' : ¬ fn.name = "runtime.NumGoroutine" := by
    intro h
    rw [h] at hnm
    exact absurd hnm (by decide)
  simp only [execOp, ho, resolve, hc, hx, Deferred.ofValue, Sem.run_bind, Sem.run_pure, Result.andThen_ok, invoke, callFunc, run_program, hfn, hb]
  rw [if_neg (by simpa using hnm')]
  simp

/-- An operation comes up. -/
def OpOk (P : Program) (l : List Oper) (i : Nat) (Q : Exit → Act → World → Prop) (Kx : Act → World → Prop) (a : Act) (w : World) : Prop :=
  match l.drop i with
  | o :: _ => if Region.wanted o (yielded l.toArray a.tmps) then o.wp P a w Kx Q ∨ (o.asks P a w ∧ LetsOut Q) else Kx (a.put o.dst undef) w
  | [] => False

theorem call_op {l : List Oper} {k : Nat} (ρ new : List (Nat × Nat)) (lent : Bool) (p : Pre) (args : List AV) {Φ : AV → Heap → Prop} {sm : St} (hp : preCall ρ lent l k s = some p) (hm : missS l k s = some sm)
    (hR : (okR (ρ ++ new) && (okR ρ && (allSmall ρ && allBig new))) = true) (hc : p.g = true → AllP p.cs) (hargs : p.args = args) (hA : p.g = true → ACall P p.f args p.hin Φ)
    {M : Mem} {a : Act} {Q : Exit → Act → World → Prop} {Kx : Act → World → Prop} (hr : Rel M s a)
    (hk : p.g = true → ∀ v Hr, Φ v Hr → ∃ s', outS lent ρ new l k v Hr s = some s' ∧ ∀ M' a', Ext big M M' → Rel M' s' a' → Kx a' M'.w) (h0 : p.g = false → ∀ a', Rel M sm a' → Kx a' M.w) : OpOk P l k Q Kx a M.w := by
  simp only [Bool.and_eq_true] at hR
  obtain ⟨hR1, hR2, hR3, hR4⟩ := hR
  unfold preCall at hp
  split at hp
  · rename_i o r hl
    split at hp
    · rename_i g c hgd hop
      split at hp
      · rename_i x hcallee
        split at hp
        · rename_i f caps avs h hx hraw hin
          simp only [Option.some.injEq] at hp
          subst hp
          simp only at hc hargs hA hk h0
          have hw := guard_sound hr hgd
          unfold OpOk
          rw [hl]
          simp only
          cases hg : g
          · rw [if_neg (by rw [hw, hg]; decide)]
            unfold missS at hm
            rw [hl] at hm
            simp only at hm
            split at hm
            · rename_i tm htm
              simp only [Option.some.injEq] at hm
              subst hm
              exact h0 hg _ (hr.put htm ⟨fun h => (by cases h), fun _ => rfl⟩)
            · cases hm
          · rw [if_pos (by rw [hw, hg])]
            refine .inl ?_
            have hcs := hc hg
            have hev := ev_sound (g := g) (ts := tmpsOf (x :: c.args.toList)) hg hr hcs
            have hargsR := rawL_sound (ρ := a.eval) hev hraw
            have hfv := hev x _ hx
            obtain ⟨us, hfu, hlen, hcap⟩ := hfv
            obtain ⟨⟨fn, hfn, hnm, hb⟩, hrun⟩ := hA hg
            have hexec := run_call (P := P) (ρ := a.eval) hop hcallee hfu hfn hnm hb M.w
            unfold Oper.wp
            rw [hexec]
            show Calls P f (c.args.map a.eval ++ us.toArray) M.w _
            have harr : c.args.map a.eval ++ us.toArray = (c.args.toList.map a.eval ++ us).toArray := by simp
            rw [harr]
            rw [← hr.hp] at hin
            have hcapR : ArgsR M (caps.map AV.one) us := by
              refine ⟨by simp [hlen], fun i v hi => ?_⟩
              simp only [List.getElem?_map, Option.map_eq_some_iff] at hi
              obtain ⟨c0, hc0, rfl⟩ := hi
              obtain ⟨u, hu, hv⟩ := hcap i c0 hc0
              exact ⟨u, hu, VM_VR hv⟩
            have hall := (hargsR.app hcapR).lift (callMem_turns (lent := lent) hr.ok hin hR2)
            rw [hr.hp, hargs] at hall
            refine (hrun (callMem M ρ lent h) _ rfl (callMem_ok hr.ok hin hR2) hall).mono fun e w' hq => ?_
            obtain ⟨v, u, M1, rfl, hΦ, hvu, hok1, hw1, hext1⟩ := hq
            obtain ⟨s', hs', hgo⟩ := hk hg v M1.H hΦ
            unfold outS at hs'
            rw [hl] at hs'
            simp only at hs'
            split at hs'
            · rename_i H2 hH2
              split at hs'
              · rename_i tm htm
                simp only [Option.some.injEq] at hs'
                subst hs'
                rw [← hr.hp] at hH2
                obtain ⟨hokM, hextM, hturn⟩ := outMem_all hr.ok hin hR1 hR2 hR3 hR4 hok1 hext1 hH2
                have hext2 : Ext big M (outMem M M1 (ρ ++ new) H2) := hextM.mono fun y hy => newN_big hR4 hy
                have hst := hr.step (hp := H2) rfl hokM hextM
                have hput := hst.put htm (AVR_lift hturn hvu)
                have := hgo (outMem M M1 (ρ ++ new) H2) _ hext2 hput
                subst hw1
                exact this
              · cases hs'
            · cases hs'
        · cases hp
      · cases hp
    · cases hp
  · cases hp

theorem aops_of_op {l : List Oper} {k : Nat} (h : ∀ M0 M a, Ext big M0 M → Rel M s a → OpOk P l k (Qc K M0) (wpList P l.toArray (Qc K M0) (l.drop (k + 1))) a M.w) : AOps P l k K s := ⟨fun M0 M a he hr => by
  have h1 := h M0 M a he hr
  unfold OpOk at h1
  split at h1
  · rename_i o r hl
    have hd : l.drop (k + 1) = r := by
      have h1 : (l.drop k).drop 1 = r := by rw [hl]; rfl
      rwa [List.drop_drop] at h1
    rw [hd] at h1
    rw [hl]
    exact h1
  · exact h1.elim⟩

theorem aops_call {l : List Oper} {k : Nat} (ρ new : List (Nat × Nat)) (lent : Bool) (p : Pre) (args : List AV) {Φ : AV → Heap → Prop} {sm : St} (hp : preCall ρ lent l k s = some p) (hm : missS l k s = some sm)
    (hR : (okR (ρ ++ new) && (okR ρ && (allSmall ρ && allBig new))) = true) (hc : p.g = true → AllP p.cs) (hargs : p.args = args) (hA : p.g = true → ACall P p.f args p.hin Φ)
    (hk : p.g = true → ∀ v Hr, Φ v Hr → ∃ s', outS lent ρ new l k v Hr s = some s' ∧ AOps P l (k + 1) K s') (h0 : p.g = false → AOps P l (k + 1) K sm) : AOps P l k K s :=
  aops_of_op fun M0 M _a he hr => call_op ρ new lent p args hp hm hR hc hargs hA hr
    (fun hg v Hr hΦ => (hk hg v Hr hΦ).imp fun _s' h => ⟨h.1, fun M' a' he' hr' => h.2.run M0 M' a' (he.trans he') hr'⟩)
    (fun hg a' hr' => (h0 hg).run M0 M a' he hr')

theorem newN_nil : newN [] = noX := by funext y; rfl
theorem mapV_id {α : Type} {f : α → α} (h : ∀ x, f x = x) : ∀ l : List (Nat × α), mapV f l = l
  | [] => rfl
  | (k, v) :: r => by rw [mapV, h, mapV_id h r]

/-- What a call puts into its slot that makes nothing and hands back a known value. -/
def pureS (lent : Bool) (l : List Oper) (k : Nat) (g : Bool) (v : AV) (s : St) : Option St :=
  match l.drop k with
  | o :: _ =>
    (match o.guard with
    | none => (match putD o.dst (liftA (outV [] lent) v) s.n s.tm with | some tm => some ⟨s.n, tm, s.hp⟩ | none => none)
    | some _ => (match putD o.dst (.whn g (liftA (outV [] lent) v)) s.n s.tm with | some tm => some ⟨s.n, tm, s.hp⟩ | none => none))
  | [] => none

theorem putD_some {dst : Option Nat} {v : AV} {n : Nat} {tm tm' : List (Nat × AV)} (h : putD dst v n tm = some tm') : ∃ d, dst = some d ∧ Nat.ble (d + 1) n = true ∧ tm' = ins d v tm := by
  unfold putD at h
  split at h
  · rename_i d
    cases hb : Nat.ble (d + 1) n
    · rw [hb] at h; cases h
    · rw [hb] at h; cases h; exact ⟨d, rfl, hb, rfl⟩
  · cases h

/-- A slot under a guard may hold what it holds in either case. -/
theorem awk_whn {n d : Nat} {g : Bool} {v : AV} {tm : List (Nat × AV)} {hp : Heap} : (g = true → AWk ⟨n, ins d v tm, hp⟩ ⟨n, ins d (.whn g v) tm, hp⟩) ∧ (g = false → AWk ⟨n, ins d (.whn false (.one .any)) tm, hp⟩ ⟨n, ins d (.whn g v) tm, hp⟩) := by
  constructor
  · intro hg M a hr
    refine ⟨M, ⟨hr.hp, hr.ok, hr.defers, hr.size, fun e x he => ?_⟩, rfl, Ext.refl _ _⟩
    have he' : look e (ins d (.whn g v) tm) = some x := he
    rw [look_ins] at he'
    by_cases hed : e = d
    · rw [if_pos hed] at he'
      cases he'
      obtain ⟨u, hu, hv⟩ := hr.tm e v (by show look e (ins d v tm) = _; rw [look_ins, if_pos hed])
      exact ⟨u, hu, fun _ => hv, fun h => by rw [hg] at h; cases h⟩
    · rw [if_neg hed] at he'
      exact hr.tm e x (by show look e (ins d v tm) = _; rw [look_ins, if_neg hed]; exact he')
  · intro hg M a hr
    refine ⟨M, ⟨hr.hp, hr.ok, hr.defers, hr.size, fun e x he => ?_⟩, rfl, Ext.refl _ _⟩
    have he' : look e (ins d (.whn g v) tm) = some x := he
    rw [look_ins] at he'
    by_cases hed : e = d
    · rw [if_pos hed] at he'
      cases he'
      obtain ⟨u, hu, hv⟩ := hr.tm e (.whn false (.one .any)) (by show look e (ins d _ tm) = _; rw [look_ins, if_pos hed])
      exact ⟨u, hu, fun h => (by rw [hg] at h; cases h), fun _ => hv.2 rfl⟩
    · rw [if_neg hed] at he'
      exact hr.tm e x (by show look e (ins d _ tm) = _; rw [look_ins, if_neg hed]; exact he')

/-- A call that makes nothing of its own that is handed on: its value is known. -/
theorem pure_op {l : List Oper} {k : Nat} (lent : Bool) (p : Pre) (args : List AV) (res : AV) (s' : St) (hp : preCall [] lent l k s = some p) (hs : pureS lent l k p.g res s = some s') (hc : p.g = true → AllP p.cs) (hargs : p.g = true → p.args = args) (hA : p.g = true → ACall P p.f args [] (fun v H => v = res ∧ H = []))
    {M : Mem} {a : Act} {Q : Exit → Act → World → Prop} {Kx : Act → World → Prop} (hr : Rel M s a) (hk : ∀ M' a', Ext big M M' → Rel M' s' a' → Kx a' M'.w) : OpOk P l k Q Kx a M.w := by
  have hdrop : ∃ o r, l.drop k = o :: r := by
    unfold preCall at hp
    split at hp
    · rename_i o r hl; exact ⟨o, r, hl⟩
    · cases hp
  obtain ⟨o, r, hl⟩ := hdrop
  have hin : p.hin = [] := by
    unfold preCall at hp
    rw [hl] at hp
    simp only at hp
    split at hp
    · split at hp
      · split at hp
        · rename_i h1 h2 h3
          simp only [inH, Option.some.injEq] at h3
          cases hp
          exact h3.symm
        · cases hp
      · cases hp
    · cases hp
  have hgn : o.guard = none → p.g = true := by
    intro hgd
    unfold preCall at hp
    rw [hl] at hp
    simp only [hgd, guardOf] at hp
    split at hp
    · rename_i g c e1 _
      cases e1
      split at hp
      · split at hp
        · cases hp; rfl
        · cases hp
      · cases hp
    · cases hp
  have hm0 : ∀ v tm, putD o.dst v s.n s.tm = some tm → missS l k s = some ⟨s.n, ins ((o.dst).getD 0) (.whn false (.one .any)) s.tm, s.hp⟩ := by
    intro v tm h
    obtain ⟨d, hd, hb, _⟩ := putD_some h
    unfold missS
    rw [hl]
    simp [putD, hd, hb]
  have ho : ∀ v tm, putD o.dst v s.n s.tm = some tm → outS lent [] [] l k res [] s = some ⟨s.n, ins ((o.dst).getD 0) (liftA (outV [] lent) res) s.tm, s.hp⟩ := by
    intro v tm h
    obtain ⟨d, hd, hb, _⟩ := putD_some h
    unfold outS
    rw [hl]
    simp only [List.nil_append, outH, newN_nil, mapV_id clrO_no, mapV_id clrA_no]
    simp [putD, hd, hb]
  have hweak : ∀ {s1 s2 : St}, AWk s1 s2 → (∀ M' a', Ext big M M' → Rel M' s2 a' → Kx a' M'.w) → ∀ M' a', Ext big M M' → Rel M' s1 a' → Kx a' M'.w := by
    intro s1 s2 hw hk M' a' he' hr'
    obtain ⟨M2, h1, h2, h3⟩ := hw M' a' hr'
    rw [← h2]
    exact hk M2 a' (he'.trans h3) h1
  unfold pureS at hs
  rw [hl] at hs
  simp only at hs
  split at hs
  · rename_i hgd
    split at hs
    · rename_i tm htm
      cases hs
      obtain ⟨d, hd, hb, he⟩ := putD_some htm
      refine call_op (Φ := fun v H => v = res ∧ H = []) [] [] lent p args hp (hm0 _ _ htm) rfl hc (hargs (hgn hgd)) (fun hg => by rw [hin]; exact hA hg) hr (fun hg v Hr ⟨e1, e2⟩ => ?_) (fun hg => by rw [hgn hgd] at hg; cases hg)
      subst e1 e2
      refine ⟨_, ho _ _ htm, ?_⟩
      rw [hd]
      rw [he] at hk
      exact hk
    · cases hs
  · split at hs
    · rename_i tm htm
      cases hs
      obtain ⟨d, hd, hb, he⟩ := putD_some htm
      rw [he] at hk
      by_cases hgt : p.g = true
      · refine call_op (Φ := fun v H => v = res ∧ H = []) [] [] lent p args hp (hm0 _ _ htm) rfl hc (hargs hgt) (fun hg => by rw [hin]; exact hA hg) hr (fun hg v Hr ⟨e1, e2⟩ => ?_) (fun hg => by rw [hgt] at hg; cases hg)
        subst e1 e2
        refine ⟨_, ho _ _ htm, ?_⟩
        rw [hd]
        exact hweak (awk_whn.1 hg) hk
      · refine call_op (Φ := fun v H => v = res ∧ H = []) [] [] lent p p.args hp (hm0 _ _ htm) rfl hc rfl (fun hg => absurd hg hgt) hr (fun hg => absurd hg hgt) (fun hg a' hr' => ?_)
        have := hweak (awk_whn.2 hg) hk M a' (Ext.refl _ _)
        rw [hd] at hr'
        exact this hr'
    · cases hs

theorem aops_pure {l : List Oper} {k : Nat} (lent : Bool) (p : Pre) (args : List AV) (res : AV) (s' : St) (hp : preCall [] lent l k s = some p) (hs : pureS lent l k p.g res s = some s') (hc : p.g = true → AllP p.cs) (hargs : p.args = args) (hA : p.g = true → ACall P p.f args [] (fun v H => v = res ∧ H = []))
    (hk : AOps P l (k + 1) K s') : AOps P l k K s :=
  aops_of_op fun M0 _M _a he hr => pure_op lent p args res s' hp hs hc (fun _ => hargs) hA hr fun M' a' he' hr' => hk.run M0 M' a' (he.trans he') hr'
end

end Go.Ab
