/- The abstract machine: two rows of a table grow in a region that draws its order: the steps and the rule. -/
import Derived.Test.YtcmaffldmodacaaGrow2
namespace Go.Ab
open Go
structure GC where
  A : Nat
  i : Nat
  j : Nat
  y1 : Int
  y2 : Int
  X1 : List Int
  X2 : List Int
  a1 : Nat
  a2 : Nat
  s1 : Nat
  s2 : Nat
  d1 : Nat
  d2 : Nat
  x1 : Operand
  z1 : Operand
  x2 : Operand
  z2 : Operand
  p1 : Operand
  p2 : Operand
  bytes : Nat
def appS (c : GC) (i : Nat) (y : Int) (X : List Int) (d : Nat) (x z : Operand) (s : St) : Option (List Prop × St) :=
  match s.raw x, s.raw z with
  | some (.one (.mrow A' i' n')), some (.one (.rw B off len)) =>
    (match look A' s.hp, look B s.hp with
    | some (.mat _ xss), some (.flat (.ints .i64 ys)) =>
      cond (Nat.beq A' c.A && (Nat.beq off 0 && (Nat.beq len 1 && Nat.ble (d + 1) s.n))) (some ([i' = i, ys = [y], xss.getD i' [] = X, n' = (xss.getD i' []).length, i' < xss.length, (n' + 1) * c.bytes ≤ 140737488355328, n' + 1 ≤ 9223372036854775807, c.i < xss.length], ⟨s.n, ins d (.one .any) s.tm, s.hp⟩)) none
    | _, _ => none)
  | _, _ => none
def stoS (c : GC) (i : Nat) (y : Int) (X : List Int) (p : Operand) (s : St) : Option (List Prop × St) :=
  match s.raw p with
  | some (.one (.ptr A' i' k')) =>
    (match look A' s.hp with
    | some (.mat _ xss) =>
      cond (Nat.beq A' c.A && Nat.beq k' 0) (some ([i' = i, xss.getD i' [] = X, i' < xss.length, c.j < xss.length], ⟨s.n, mapV (liftA (dropR A')) s.tm, growH A' i' xss (xss.getD i' [] ++ [y]) s.hp⟩)) none
    | _ => none)
  | _ => none
def nrmS (T : Nat → Option TI) (c : GC) (l : List Oper) (k : Nat) (s : St) : Option (List Prop × St) :=
  match l.drop k with
  | o :: _ =>
    (match o.guard, o.dst with
    | none, some d =>
      cond (!(Nat.beq d c.d1) && !(Nat.beq d c.d2))
        (match stepRd T s true o.op with
        | some (cs, v) => (match putD (some d) v s.n s.tm with | some tm => some (cs, ⟨s.n, tm, s.hp⟩) | none => none)
        | none =>
          (match o.op with
          | .buildSlice t n _ =>
            (match T t, look c.A s.hp with
            | some ti, some (.mat _ xss) =>
              (match ti.kind, T ti.elem, memStep T s o with
              | .slice, some ie, some (cs, s') => cond (Nat.beq n 1 && (Nat.beq ie.sz 1 && !(Nat.beq (100 + d) c.A))) (some ((c.i < xss.length) :: (c.j < xss.length) :: cs, s')) none
              | _, _, _ => none)
            | _, _ => none)
          | _ => none)) none
    | _, _ => none)
  | [] => none
def stepP (T : Nat → Option TI) (c : GC) (l : List Oper) (k : Nat) (x : Nat × St) : Option (List Prop × (Nat × St)) :=
  cond (Nat.beq k c.a1) (match x.1 with | 0 => (match appS c c.i c.y1 c.X1 c.d1 c.x1 c.z1 x.2 with | some (cs, s') => some (cs, (1, s')) | none => none) | _ => none)
  (cond (Nat.beq k c.a2) (match x.1 with | 1 => (match appS c c.j c.y2 c.X2 c.d2 c.x2 c.z2 x.2 with | some (cs, s') => some (cs, (2, s')) | none => none) | _ => none)
  (cond (Nat.beq k c.s1) (match x.1 with | 2 => (match stoS c c.i c.y1 c.X1 c.p1 x.2 with | some (cs, s') => some (cs, (3, s')) | none => none) | _ => none)
  (cond (Nat.beq k c.s2) (match x.1 with | 3 => (match stoS c c.j c.y2 c.X2 c.p2 x.2 with | some (cs, s') => some (cs, (4, s')) | none => none) | _ => none)
  (match nrmS T c l k x.2 with | some (cs, s') => some (cs, (x.1, s')) | none => none))))
def firstP (T : Nat → Option TI) (c : GC) (l : List Oper) (N : Nat) (m : Nat) (x : Nat × St) (r : List Nat) : Option (Nat × List Prop × (Nat × St)) :=
  match firstU T l.toArray (mkM N m) x.2 r with
  | some (i, cs, s') =>
    (match l.drop i with
    | o :: _ => (match o.dst with
      | some d => cond (!(Nat.beq d c.d1) && !(Nat.beq d c.d2)) (some (i, cs, (x.1, s'))) none
      | none => none)
    | [] => none)
  | none => none
def PhP (z : Nat) (c : GC) (ph : Nat) (M : Mem) (a : Act) : Prop :=
  match ph with
  | 1 => ∃ v b, a.tmps[c.d1]? = some v ∧ Grew z M (c.A, some c.i) c.X1 c.y1 v b
  | 2 => ∃ v1 b1 v2 b2, a.tmps[c.d1]? = some v1 ∧ a.tmps[c.d2]? = some v2 ∧ Grew z M (c.A, some c.i) c.X1 c.y1 v1 b1 ∧ Grew z M (c.A, some c.j) c.X2 c.y2 v2 b2 ∧ b1 ≠ b2
  | 3 => ∃ v b, a.tmps[c.d2]? = some v ∧ Grew z M (c.A, some c.j) c.X2 c.y2 v b
  | _ => True
def RelP (z : Nat) (c : GC) (x : Nat × St) (M : Mem) (a : Act) : Prop := Rel M x.2 a ∧ PhP z c x.1 M a
theorem tmps_put {a : Act} {d e : Nat} {u : Value} (h : e ≠ d) : (a.put (some d) u).tmps[e]? = a.tmps[e]? := by
  simp only [Act.put]
  rw [Array.getElem?_setIfInBounds_ne (Ne.symm h)]
theorem PhP.frame {z : Nat} {c : GC} {ph : Nat} {M M' : Mem} {a : Act} {d : Nat} {u : Value} (h : PhP z c ph M a) (h1 : c.d1 ≠ d) (h2 : c.d2 ≠ d)
    (hf : ∀ i xs y v b, (i = c.i ∨ i = c.j) → Grew z M (c.A, some i) xs y v b → Grew z M' (c.A, some i) xs y v b) : PhP z c ph M' (a.put (some d) u) := by
  unfold PhP at h ⊢
  split at h
  · obtain ⟨v, b, q1, q2⟩ := h
    exact ⟨v, b, by rw [tmps_put h1]; exact q1, hf _ _ _ _ _ (.inl rfl) q2⟩
  · obtain ⟨v1, b1, v2, b2, q1, q2, q3, q4, q5⟩ := h
    exact ⟨v1, b1, v2, b2, by rw [tmps_put h1]; exact q1, by rw [tmps_put h2]; exact q2, hf _ _ _ _ _ (.inl rfl) q3, hf _ _ _ _ _ (.inr rfl) q4, q5⟩
  · obtain ⟨v, b, q1, q2⟩ := h
    exact ⟨v, b, by rw [tmps_put h2]; exact q1, hf _ _ _ _ _ (.inr rfl) q2⟩
  · trivial
section
variable {P : Program} {T : Nat → Option TI}
theorem grew_bs {z : Nat} {c : GC} {s s' : St} {M : Mem} {a : Act} {o : Oper} {t n d : Nat} {parts : Array (Nat × Operand)} {ti ie : TI} {cs : List Prop} {id' : Nat} {xss : List (List Int)} (hT : ∀ t i, T t = some i → TF P t i) (hr : Rel M s a) (ho : o.op = .buildSlice t n parts) (hd : o.dst = some d)
    (hti : T t = some ti) (hk : ti.kind = .slice) (hie : T ti.elem = some ie) (hn : n = 1) (hsz : ie.sz = 1) (hAd : 100 + d ≠ c.A) (hA : look c.A s.hp = some (.mat id' xss)) (hi : c.i < xss.length) (hj : c.j < xss.length) (h : memStep T s o = some (cs, s')) (hc : AllP cs) :
    ∃ (n : Next) (M' : Mem) (u : Value), (execOp a.eval o).run P M.w = .ok n M'.w ∧ Ext big M M' ∧ Rel M' s' (a.put o.dst u) ∧ (n = .value u ∨ (n = .skip ∧ u = undef)) ∧
      (∀ i xs y v b, (i = c.i ∨ i = c.j) → Grew z M (c.A, some i) xs y v b → Grew z M' (c.A, some i) xs y v b) := by
  subst hn
  unfold memStep at h
  split at h
  · rename_i r hmem
    have hmem0 := hmem
    rw [ho] at hmem0
    simp only [stepMem, hd] at hmem0
    have hx : r.x = some (100 + d) ∧ ∃ v, r.val = some v := by
      unfold stBuildSlice at hmem0
      simp only [Bool.cond_eq_ite] at hmem0
      (repeat' split at hmem0) <;> first | (cases hmem0; exact ⟨rfl, _, rfl⟩) | (cases hmem0)
    obtain ⟨hx, v, hval⟩ := hx
    rw [hx, hval] at h
    simp only at h
    split at h
    · rename_i tm htm
      cases hb : Nat.ble 100 (100 + d)
      · rw [hb] at h; cases h
      · rw [hb] at h
        simp only [cond_true, Option.some.injEq, Prod.mk.injEq] at h
        obtain ⟨rfl, rfl⟩ := h
        obtain ⟨h1, h2⟩ := AllP_append.1 hc
        have hA' := hA
        rw [← hr.hp] at hmem hA'
        obtain ⟨nx, M', hrun, hH, hok, hext, hn⟩ := stepMem_sound (P := P) hT hr.ok (ev_sound rfl hr h1) hmem h2
        rw [hval] at hn
        rw [hx] at hext
        obtain ⟨u, rfl, hv⟩ := hn
        refine ⟨_, M', u, hrun, hext.mono (fun x hx => by have := Nat.eq_of_beq_eq_true hx; subst this; exact hb), (hr.step hH hok hext).put htm hv, .inl rfl, fun i xs y v b hij hG => ?_⟩
        have hst := bs_world (P := P) (kind_slice (hT _ _ hti) hk) (hT _ _ hie) hsz ho hrun
        have hil : i < xss.length := by rcases hij with q | q <;> (subst q; assumption)
        obtain ⟨o', _, _, _, hμ, _⟩ := hext.ids (c.A, some i) _ (by show Nat.beq (100 + d) c.A = false; exact beq_ne hAd) (lk_of_row hA' hil)
        exact hG.frame (hst b hG.lt) hμ (fun hl hf => by
          obtain ⟨_, q2⟩ := hext.still b hG.lt hl
          refine ⟨q2, fun hf' => ?_⟩
          rcases hext.only b hf' with q | q | q
          · exact hf q
          · exact hl q
          · have := hG.lt; omega)
    · cases h
  · cases h
structure GFacts (T : Nat → Option TI) (c : GC) (l : List Oper) (t : TypeId) (ti ie : TI) (o1 o2 o3 o4 : Oper) (r1 r2 r3 r4 : List Oper) : Prop where
  h1 : l.drop c.a1 = o1 :: r1
  h2 : l.drop c.a2 = o2 :: r2
  h3 : l.drop c.s1 = o3 :: r3
  h4 : l.drop c.s2 = o4 :: r4
  p1 : o1.op = .call { callee := .builtin .append, args := #[c.x1, c.z1], argTypes := #[t, t] }
  p2 : o2.op = .call { callee := .builtin .append, args := #[c.x2, c.z2], argTypes := #[t, t] }
  p3 : o3.op = .store t c.p1 (.tmp c.d1)
  p4 : o4.op = .store t c.p2 (.tmp c.d2)
  g1 : o1.guard = none
  g2 : o2.guard = none
  g3 : o3.guard = none
  g4 : o4.guard = none
  d1 : o1.dst = some c.d1
  d2 : o2.dst = some c.d2
  d3 : o3.dst = none
  d4 : o4.dst = none
  ti_ : T t = some ti
  kd : ti.kind = .slice
  sz : ti.sz = 1
  ie_ : T ti.elem = some ie
  isz : ie.sz = 1
  by_ : ie.bytes = c.bytes
  st : strictId c.A = true
  bA : big c.A = true
  ne : c.d1 ≠ c.d2
theorem eval_tmp {a : Act} {d : Nat} {v : Value} (h : a.tmps[d]? = some v) : a.eval (.tmp d) = v := by
  show a.tmps.getD d undef = v
  rw [Array.getD_eq_getD_getElem?, h]; rfl
theorem wpOp_val {l : List Oper} {k : Nat} {o : Oper} {r : List Oper} {Q : Exit → Act → World → Prop} {Kx : Act → World → Prop} {a : Act} {w w1 : World} {v : Value} (hl : l.drop k = o :: r) (hg : o.guard = none) (hrun : (execOp a.eval o).run P w = .ok (.value v) w1) (hk : Kx (a.put o.dst v) w1) : wpOp P l.toArray Q k Kx a w := by
  refine wpOp_of_ok ?_
  unfold OpOk
  rw [hl]
  simp only
  rw [if_pos (by simp [Region.wanted, hg])]
  refine .inl ?_
  unfold Oper.wp
  rw [hrun]
  exact hk
theorem wpOp_skip {l : List Oper} {k : Nat} {o : Oper} {r : List Oper} {Q : Exit → Act → World → Prop} {Kx : Act → World → Prop} {a : Act} {w w1 : World} (hl : l.drop k = o :: r) (hg : o.guard = none) (hd : o.dst = none) (hrun : (execOp a.eval o).run P w = .ok .skip w1) (hk : Kx a w1) : wpOp P l.toArray Q k Kx a w := by
  refine wpOp_of_ok ?_
  unfold OpOk
  rw [hl]
  simp only
  rw [if_pos (by simp [Region.wanted, hg])]
  refine .inl ?_
  unfold Oper.wp
  rw [hrun]
  have h2 : Kx (a.put o.dst undef) w1 := by rw [hd]; exact hk
  exact h2
theorem appS_sound {c : GC} {l : List Oper} {k i d n : Nat} {y : Int} {X : List Int} {x z : Operand} {s s' : St} {cs : List Prop} {o : Oper} {r : List Oper} {t : TypeId} {ti ie : TI} (hT : ∀ t i, T t = some i → TF P t i) (hl : l.drop k = o :: r)
    (ho : o.op = .call { callee := .builtin .append, args := #[x, z], argTypes := #[t, t] }) (hti : T t = some ti) (hkd : ti.kind = .slice) (hie : T ti.elem = some ie) (hsz1 : ie.sz = 1) (hby : ie.bytes = c.bytes) (hst : strictId c.A = true)
    (h : appS c i y X d x z s = some (cs, s')) (hc : AllP cs) {M : Mem} {a : Act} (hr : Rel M s a) (hz : n ≤ M.w.heap.size) :
    ∃ (v : Value) (w1 : World) (b : Nat), (execOp a.eval o).run P M.w = .ok (.value v) w1 ∧ Ext noX M ⟨M.μ, M.H, w1, M.free⟩ ∧ Rel ⟨M.μ, M.H, w1, M.free⟩ s' (a.put (some d) v) ∧ (a.put (some d) v).tmps[d]? = some v ∧ Grew n ⟨M.μ, M.H, w1, M.free⟩ (c.A, some i) X y v b ∧
      (∀ b', b' < M.w.heap.size → b' ≠ b → w1.heap[b']? = M.w.heap[b']?) ∧ (M.w.heap.size ≤ b ∨ ∃ p, M.μ (c.A, some i) = some (b, p)) ∧ (∃ o', lk M.H (c.A, some i) = some o') ∧ ∃ o', lk M.H (c.A, some c.i) = some o' := by
  unfold appS at h
  split at h
  · rename_i A' i' n' B off len hx hzz
    split at h
    · rename_i id' xss ys hA hB
      cases hb : (Nat.beq A' c.A && (Nat.beq off 0 && (Nat.beq len 1 && Nat.ble (d + 1) s.n)))
      · rw [hb] at h; cases h
      · rw [hb] at h
        simp only [cond_true, Option.some.injEq, Prod.mk.injEq] at h
        obtain ⟨rfl, rfl⟩ := h
        simp only [Bool.and_eq_true] at hb
        obtain ⟨q1, q2, q3, q4⟩ := hb
        obtain rfl := Nat.eq_of_beq_eq_true q1
        obtain rfl := Nat.eq_of_beq_eq_true q2
        obtain rfl := Nat.eq_of_beq_eq_true q3
        obtain ⟨e1, e2, e3, e4, e5, e6, e7, e8, _⟩ := hc
        subst e1 e2
        have hA' : look c.A s.hp = some (.mat c.A xss) := by
          have := hr.ok.named c.A id' xss (by rw [hr.hp]; exact hA)
          rw [hA, this]
        obtain ⟨v, w1, b, g1, g2, g3, g4, g5, g6, g7⟩ := grow_app (P := P) hT hr ho hti hkd hie hsz1 hx hzz hA' hB e5 e4 hst (by rw [hby]; exact e6) e7 hz
        rw [e3] at g5
        have hput : putD (some d) (.one .any) s.n s.tm = some (ins d (.one .any) s.tm) := by simp only [putD, q4, cond_true]
        refine ⟨v, w1, b, g1, g4, (Rel.step0 (M' := ⟨M.μ, M.H, w1, M.free⟩) hr hr.hp g3 g4).put hput (show VR _ .any v from g2), ?_, g5, g6, g7, ⟨_, lk_of_row (by rw [hr.hp]; exact hA') e5⟩, _, lk_of_row (by rw [hr.hp]; exact hA') e8⟩
        simp only [Act.put]
        exact Array.getElem?_setIfInBounds_self_of_lt (by rw [hr.size]; exact Nat.le_of_ble_eq_true q4)
    · cases h
  · cases h
theorem stoS_sound {c : GC} {l : List Oper} {k i d b : Nat} {y : Int} {X : List Int} {p : Operand} {s s' : St} {cs : List Prop} {o : Oper} {r : List Oper} {t : TypeId} {ti : TI} {v : Value} (hT : ∀ t i, T t = some i → TF P t i) (hl : l.drop k = o :: r)
    (ho : o.op = .store t p (.tmp d)) (hti : T t = some ti) (hsz1 : ti.sz = 1) (hbA : big c.A = true) (h : stoS c i y X p s = some (cs, s')) (hc : AllP cs) {M0 M : Mem} {a : Act} (he : Ext big M0 M) (hr : Rel M s a) (hv : a.tmps[d]? = some v) (hG : Grew M0.w.heap.size M (c.A, some i) X y v b) :
    ∃ M' : Mem, (execOp a.eval o).run P M.w = .ok .skip M'.w ∧ Ext big M0 M' ∧ Rel M' s' a ∧ ∀ xs2 y2 v2 b2, c.j ≠ i → b2 ≠ b → Grew M0.w.heap.size M (c.A, some c.j) xs2 y2 v2 b2 → Grew M0.w.heap.size M' (c.A, some c.j) xs2 y2 v2 b2 := by
  unfold stoS at h
  split at h
  · rename_i A' i' k' hx
    split at h
    · rename_i id' xss hA
      cases hb : (Nat.beq A' c.A && Nat.beq k' 0)
      · rw [hb] at h; cases h
      · rw [hb] at h
        simp only [cond_true, Option.some.injEq, Prod.mk.injEq] at h
        obtain ⟨rfl, rfl⟩ := h
        simp only [Bool.and_eq_true] at hb
        obtain ⟨q1, q2⟩ := hb
        obtain rfl := Nat.eq_of_beq_eq_true q1
        obtain rfl := Nat.eq_of_beq_eq_true q2
        obtain ⟨e1, e2, e3, e4, _⟩ := hc
        subst e1
        have hA' : look c.A s.hp = some (.mat c.A xss) := by
          have := hr.ok.named c.A id' xss (by rw [hr.hp]; exact hA)
          rw [hA, this]
        obtain ⟨M', g1, g2, g3, g4⟩ := grow_store (P := P) hT hr ho hti hsz1 hx he (by rw [eval_tmp hv, e2]; exact hG) hA' e3 hbA
        exact ⟨M', g1, g2, g3, fun xs2 y2 v2 b2 hj hb2 hG2 => g4 _ c.j xs2 y2 v2 b2 e4 hj hb2 hG2⟩
    · cases h
  · cases h
theorem nrmS_sound {z : Nat} {c : GC} {l : List Oper} {k ph : Nat} {s s' : St} {cs : List Prop} (hT : ∀ t i, T t = some i → TF P t i) (h : nrmS T c l k s = some (cs, s')) (hc : AllP cs) {M0 M : Mem} {a : Act} (he : Ext big M0 M) (hr : Rel M s a) (hp : PhP z c ph M a)
    {Q : Exit → Act → World → Prop} {Kx : Act → World → Prop} (hk : ∀ M' a', Ext big M0 M' → RelP z c (ph, s') M' a' → Kx a' M'.w) : wpOp P l.toArray Q k Kx a M.w := by
  unfold nrmS at h
  split at h
  · rename_i o r hl
    split at h
    · rename_i d hg hd
      cases hb : (!(Nat.beq d c.d1) && !(Nat.beq d c.d2))
      · rw [hb] at h; cases h
      · rw [hb] at h
        simp only [cond_true] at h
        simp only [Bool.and_eq_true, Bool.not_eq_true'] at hb
        have n1 : c.d1 ≠ d := fun e => by have := hb.1; rw [e, beq_self] at this; cases this
        have n2 : c.d2 ≠ d := fun e => by have := hb.2; rw [e, beq_self] at this; cases this
        split at h
        · rename_i cs1 v hrd
          split at h
          · rename_i tm htm
            simp only [Option.some.injEq, Prod.mk.injEq] at h
            obtain ⟨rfl, rfl⟩ := h
            obtain ⟨u, hu, hv⟩ := stepRd_sound (P := P) hT rfl hr hrd hc
            refine wpOp_val hl hg hu ?_
            rw [hd]
            exact hk M _ he ⟨hr.put htm hv, hp.frame n1 n2 (fun _ _ _ _ _ _ q => q)⟩
          · cases h
        · split at h
          · rename_i t n parts ho
            split at h
            · rename_i ti id' xss hti hA
              split at h
              · rename_i ie cs1 s1 hkd hie hms
                cases hb2 : (Nat.beq n 1 && (Nat.beq ie.sz 1 && !(Nat.beq (100 + d) c.A)))
                · rw [hb2] at h; cases h
                · rw [hb2] at h
                  simp only [cond_true, Option.some.injEq, Prod.mk.injEq] at h
                  obtain ⟨rfl, rfl⟩ := h
                  simp only [Bool.and_eq_true, Bool.not_eq_true'] at hb2
                  obtain ⟨q1, q2, q3⟩ := hb2
                  have hAd : 100 + d ≠ c.A := fun e => by rw [e, beq_self] at q3; cases q3
                  obtain ⟨nx, M', u, hrun, hext, hr', hn, hfr⟩ := grew_bs (P := P) (z := z) (c := c) hT hr ho hd hti hkd hie (Nat.eq_of_beq_eq_true q1) (Nat.eq_of_beq_eq_true q2) hAd hA hc.1 hc.2.1 hms hc.2.2
                  rw [hd] at hr'
                  have hph := hp.frame (u := u) n1 n2 hfr
                  rcases hn with rfl | ⟨rfl, rfl⟩
                  · refine wpOp_val hl hg hrun ?_
                    rw [hd]
                    exact hk M' _ (he.trans hext) ⟨hr', hph⟩
                  · refine wpOp_of_ok ?_
                    unfold OpOk
                    rw [hl]
                    simp only
                    rw [if_pos (by simp [Region.wanted, hg])]
                    refine .inl ?_
                    unfold Oper.wp
                    rw [hrun]
                    have h2 : Kx (a.put o.dst undef) M'.w := by rw [hd]; exact hk M' _ (he.trans hext) ⟨hr', hph⟩
                    exact h2
              · cases h
            · cases h
          · cases h
    · cases h
  · cases h
theorem stepP_sound {c : GC} {l : List Oper} {t : TypeId} {ti ie : TI} {o1 o2 o3 o4 : Oper} {r1 r2 r3 r4 : List Oper} (hT : ∀ t i, T t = some i → TF P t i) (F : GFacts T c l t ti ie o1 o2 o3 o4 r1 r2 r3 r4) (hij : c.i ≠ c.j) {M0 : Mem} {k : Nat} {x x' : Nat × St} {cs : List Prop}
    (h : stepP T c l k x = some (cs, x')) (hc : AllP cs) {M : Mem} {a : Act} (he : Ext big M0 M) (hr : RelP M0.w.heap.size c x M a) {Q : Exit → Act → World → Prop} {Kx : Act → World → Prop} (hk : ∀ M' a', Ext big M0 M' → RelP M0.w.heap.size c x' M' a' → Kx a' M'.w) : wpOp P l.toArray Q k Kx a M.w := by
  obtain ⟨ph, s⟩ := x
  obtain ⟨hr, hp⟩ := hr
  unfold stepP at h
  cases b1 : Nat.beq k c.a1
  · rw [b1] at h
    simp only [cond_false] at h
    cases b2 : Nat.beq k c.a2
    · rw [b2] at h
      simp only [cond_false] at h
      cases b3 : Nat.beq k c.s1
      · rw [b3] at h
        simp only [cond_false] at h
        cases b4 : Nat.beq k c.s2
        · rw [b4] at h
          simp only [cond_false] at h
          split at h
          · rename_i cs1 s1 hn
            cases h
            exact nrmS_sound hT hn hc he hr hp hk
          · cases h
        · rw [b4] at h
          obtain rfl := Nat.eq_of_beq_eq_true b4
          simp only [cond_true] at h
          split at h
          · split at h
            · rename_i cs1 s1 hn
              cases h
              obtain ⟨v, b, q1, q2⟩ := hp
              obtain ⟨M', m1, m2, m3, _⟩ := stoS_sound (P := P) hT F.h4 F.p4 F.ti_ F.sz F.bA hn hc he hr q1 q2
              exact wpOp_skip F.h4 F.g4 F.d4 m1 (hk M' a m2 ⟨m3, trivial⟩)
            · cases h
          · cases h
      · rw [b3] at h
        obtain rfl := Nat.eq_of_beq_eq_true b3
        simp only [cond_true] at h
        split at h
        · split at h
          · rename_i cs1 s1 hn
            cases h
            obtain ⟨v1, b1', v2, b2', q1, q2, q3, q4, q5⟩ := hp
            obtain ⟨M', m1, m2, m3, m4⟩ := stoS_sound (P := P) hT F.h3 F.p3 F.ti_ F.sz F.bA hn hc he hr q1 q3
            exact wpOp_skip F.h3 F.g3 F.d3 m1 (hk M' a m2 ⟨m3, v2, b2', q2, m4 _ _ _ _ (Ne.symm hij) (Ne.symm q5) q4⟩)
          · cases h
        · cases h
    · rw [b2] at h
      obtain rfl := Nat.eq_of_beq_eq_true b2
      simp only [cond_true] at h
      split at h
      · split at h
        · rename_i cs1 s1 hn
          cases h
          obtain ⟨v1, b1', q1, q2⟩ := hp
          obtain ⟨v, w1, b, m1, m2, m3, m4, m5, m6, m7, ⟨o', m8⟩, o1, hl1⟩ := appS_sound (P := P) (n := M0.w.heap.size) hT F.h2 F.p2 F.ti_ F.kd F.ie_ F.isz F.by_ F.st hn hc hr he.size
          have hne : b1' ≠ b := by
            rintro rfl
            rcases m7 with m7 | ⟨p, m7⟩
            · have := q2.lt; omega
            · obtain ⟨p1, cap1, _, _, _, _, g7⟩ := q2
              rcases g7 with g7 | ⟨g7, _, _⟩
              · have := hr.ok.inj (c.A, some c.i) (c.A, some c.j) o1 o' b1' p1 p hl1 m8 g7 m7
                exact hij (Option.some.inj (congrArg Prod.snd this))
              · exact g7 ⟨_, _, p, m8, m7⟩
          refine wpOp_val F.h2 F.g2 m1 ?_
          rw [F.d2]
          refine hk ⟨M.μ, M.H, w1, M.free⟩ _ (he.trans (m2.mono (fun x hx => by cases hx))) ⟨m3, v1, b1', v, b, by rw [tmps_put F.ne]; exact q1, m4, q2.frame (m6 b1' q2.lt hne) rfl (fun h1 h2 => ⟨h1, h2⟩), m5, hne⟩
        · cases h
      · cases h
  · rw [b1] at h
    obtain rfl := Nat.eq_of_beq_eq_true b1
    simp only [cond_true] at h
    split at h
    · split at h
      · rename_i cs1 s1 hn
        cases h
        obtain ⟨v, w1, b, m1, m2, m3, m4, m5, _⟩ := appS_sound (P := P) (n := M0.w.heap.size) hT F.h1 F.p1 F.ti_ F.kd F.ie_ F.isz F.by_ F.st hn hc hr he.size
        refine wpOp_val F.h1 F.g1 m1 ?_
        rw [F.d1]
        exact hk ⟨M.μ, M.H, w1, M.free⟩ _ (he.trans (m2.mono (fun x hx => by cases hx))) ⟨m3, v, b, m4, m5⟩
      · cases h
    · cases h
def gFin (ks hs : List Nat) : Option (GAcc (Nat × St)) → Option (Nat × St)
  | some ⟨[(m, (_, s))], _, _⟩ => some (m, cutS ks hs s)
  | _ => none
theorem firstP_sound {c : GC} {l : List Oper} (hT : ∀ t i, T t = some i → TF P t i) (hsel : Region.noSelect l.toArray = true) {M0 : Mem} {K : Post} {N : Nat} (n : Nat) (m : Nat) (i : Nat) (x : Nat × St) (cs : List Prop) (x' : Nat × St) (r : List Nat) (hrr : ∀ j ∈ r, j ∈ Region.ready .any l.toArray (mkM N m)) (hf : firstP T c l N m x r = some (i, cs, x')) (hc : AllP cs)
    (hA : AG P l (QN (Qc K M0)) M0 (RelP M0.w.heap.size c) n ((mkM N m).setIfInBounds i true) x') : AG P l (QN (Qc K M0)) M0 (RelP M0.w.heap.size c) (n + 1) (mkM N m) x := by
  intro M a he hr
  unfold firstP at hf
  split at hf
  · rename_i i1 cs1 s1 hfu
    split at hf
    · rename_i o r hl
      split at hf
      · rename_i d hd
        cases hb : (!(Nat.beq d c.d1) && !(Nat.beq d c.d2))
        · rw [hb] at hf; cases hf
        · rw [hb] at hf
          simp only [cond_true, Option.some.injEq, Prod.mk.injEq] at hf
          obtain ⟨rfl, rfl, rfl⟩ := hf
          simp only [Bool.and_eq_true, Bool.not_eq_true'] at hb
          have n1 : c.d1 ≠ d := fun e => by have := hb.1; rw [e, beq_self] at this; cases this
          have n2 : c.d2 ≠ d := fun e => by have := hb.2; rw [e, beq_self] at this; cases this
          obtain ⟨hi, o', ho, hfree, g, c1, v, hg, g1, g2, g3⟩ := firstU_sound hfu
          have ho2 := drop_at hl
          rw [ho] at ho2
          cases ho2
          obtain ⟨u, hyl, hr1⟩ := first_yields (P := P) hT hg g1 g2 g3 hc hr.1
          refine wpAny_first ho (Region.noSelect_spec hsel) (fun c a w h => by cases h.1) n (mkM N m) a M.w (Region.free_spec ho hfree) (hrr _ hi) hyl (hA M _ he ⟨hr1, ?_⟩)
          rw [hd]
          exact hr.2.frame n1 n2 (fun _ _ _ _ _ _ q => q)
      · cases hf
    · cases hf
  · cases hf
theorem aany_grow {K : Post} {s : St} {l : List Oper} {n : Nat} {listed L : Array Bool} {s' : St} (c : GC) (N k key key' : Nat) (ds : List Nat) (ks hs : List Nat) (cds : List (Nat × List Prop)) {t : TypeId} {ti ie : TI} {o1 o2 o3 o4 : Oper} {r1 r2 r3 r4 : List Oper} (hT : ∀ t i, T t = some i → TF P t i) (hsel : Region.noSelect l.toArray = true)
    (hN : l.length = N) (hon : (l.all fun o => o.after.toList.all fun e => Nat.blt e.on N) = true) (hds : l.map depOf = ds) (hl : listed = mkM N key) (hL : L = mkM N key')
    (F : GFacts T c l t ti ie o1 o2 o3 o4 r1 r2 r3 r4) (hij : c.i ≠ c.j) (h : gFin ks hs (gGo (stepP T c l) (firstP T c l N) ds k ⟨[(key, (0, s))], [], []⟩) = some (key', s')) (he : gL (gGo (stepP T c l) (firstP T c l N) ds k ⟨[(key, (0, s))], [], []⟩) = gR (gGo (stepP T c l) (firstP T c l N) ds k ⟨[(key, (0, s))], [], []⟩))
    (hd : gC (gGo (stepP T c l) (firstP T c l N) ds k ⟨[(key, (0, s))], [], []⟩) = gD cds (gGo (stepP T c l) (firstP T c l N) ds k ⟨[(key, (0, s))], [], []⟩)) (hc : AllC cds) (hk : AAny P l K n L s') : AAny P l K (n + k) listed s := ⟨fun M0 M a he0 hr0 => by
  subst hl hL
  revert h he hd
  generalize hg : gGo (stepP T c l) (firstP T c l N) ds k ⟨[(key, (0, s))], [], []⟩ = q
  intro h he hd
  match q, hg, h, he, hd with
  | none, _, h, _, _ => cases h
  | some ⟨[(m, (ph, sf))], es, cs⟩, hg, h, he, hd =>
    simp only [gFin, Option.some.injEq, Prod.mk.injEq] at h
    obtain ⟨rfl, rfl⟩ := h
    exact gGo_sound (Q := QN (Qc K M0)) (M0 := M0) (R := RelP M0.w.heap.size c) hN hon hds (fun i x cs x' h1 h2 M a h3 h4 Kx h5 => stepP_sound hT F hij h1 h2 h3 h4 h5) (fun n m i x cs x' r h0 h1 h2 h3 => firstP_sound hT hsel n m i x cs x' r h0 h1 h2 h3) k _ _ hg (fun x hx => map_eq_mem he x hx) (fun x hx => by rw [map_eq_mem hd x hx]; exact lookD_all hc) (fun x hx => by
      rw [List.mem_singleton.1 hx]
      exact fun M a h1 h2 => (aany_weak (awk_cut ks hs _) hk).run M0 M a h1 h2.1) (key, (0, s)) List.mem_cons_self M a he0 ⟨hr0, trivial⟩
  | some ⟨[], _, _⟩, _, h, _, _ => cases h
  | some ⟨_ :: _ :: _, _, _⟩, _, h, _, _ => cases h⟩
end
theorem shape_nils {id n : Nat} {vs : List V1} (hl : vs.length = n) (hv : (vs.all fun v => match v with | .nils => true | _ => false) = true) :
    ∀ i j, i < (Obj.box n 1 vs).len → j < (Obj.box n 1 vs).sz → ∃ i2 j2, i2 < (Obj.box 1 n vs).len ∧ j2 < (Obj.box 1 n vs).sz ∧ i2 * (Obj.box 1 n vs).sz + j2 = i * (Obj.box n 1 vs).sz + j ∧ (Obj.box n 1 vs).cell i j = clrV (Nat.beq id) ((Obj.box 1 n vs).cell i2 j2) := fun i j hi hj => by
  have hi' : i < n := hi
  have hj' : j < 1 := hj
  obtain rfl : j = 0 := by omega
  refine ⟨0, i, by show 0 < 1; omega, by show i < n; exact hi', by show 0 * n + i = i * 1 + 0; omega, ?_⟩
  simp only [Obj.cell, Nat.zero_mul, Nat.zero_add, Nat.mul_one, Nat.add_zero]
  rw [List.getD_eq_getElem?_getD, List.getElem?_eq_getElem (by omega)]
  have h := List.all_eq_true.1 hv _ (List.getElem_mem (show i < vs.length by omega))
  show vs[i] = clrV _ (vs[i])
  revert h
  cases vs[i] <;> intro h <;> first | rfl | cases h
theorem allnils {n : Nat} {vs : List V1} (hl : vs.length = n) (hv : (vs.all fun v => match v with | .nils => true | _ => false) = true) : ∀ i, i < n → vs.getD i .any = .nils := fun i hi => by
  rw [List.getD_eq_getElem?_getD, List.getElem?_eq_getElem (by omega)]
  have h := List.all_eq_true.1 hv _ (List.getElem_mem (show i < vs.length by omega))
  show vs[i] = .nils
  revert h
  cases vs[i] <;> intro h <;> first | rfl | cases h
theorem getD_nils (n : Nat) (i : Nat) : (List.replicate n ([] : List Int)).getD i [] = [] := by
  rw [List.getD_eq_getElem?_getD, List.getElem?_replicate]
  split <;> rfl
end Go.Ab
