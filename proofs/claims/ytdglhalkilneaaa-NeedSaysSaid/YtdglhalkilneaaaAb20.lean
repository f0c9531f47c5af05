/- The abstract machine, part 20: a region that draws its order, of reads, new blocks and calls: one order tells for all. -/
import Derived.Test.YtdglhalkilneaaaAb19
namespace Go.Ab
open Go

/-! ### What a new block does not touch -/
def refsV (X : Nat → Bool) : V1 → Bool
  | .rw id _ _ => !(X id)
  | .ptr id _ _ => !(X id)
  | .fn _ caps => caps.all fun c => match c with | .rw id _ _ => !(X id) | .ptr id _ _ => !(X id) | _ => true
  | _ => true
def refsA (X : Nat → Bool) : AV → Bool
  | .one v => refsV X v
  | .agg vs => vs.all (refsV X)
  | .tup es => es.all fun e => e.2.all (refsV X)
  | .whn _ v => refsA X v
def refsO (X : Nat → Bool) : Obj → Bool
  | .box _ _ vs => vs.all (refsV X)
  | _ => true
theorem refs1_clr {X Y : Nat → Bool} (hY : ∀ z, Y z = true → X z = true) {c : V1} (h : (match c with | .rw id _ _ => !(X id) | .ptr id _ _ => !(X id) | _ => true) = true) : clr1 Y c = c := by
  cases c <;> first | rfl | skip
  case rw id a b =>
    simp only [Bool.not_eq_true'] at h
    have : Y id = false := by cases hy : Y id; rfl; rw [hY id hy] at h; cases h
    simp [clr1, this]
  case ptr id a b =>
    simp only [Bool.not_eq_true'] at h
    have : Y id = false := by cases hy : Y id; rfl; rw [hY id hy] at h; cases h
    simp [clr1, this]
theorem refsV_clr {X Y : Nat → Bool} (hY : ∀ z, Y z = true → X z = true) {v : V1} (h : refsV X v = true) : clrV Y v = v := by
  cases v <;> first | rfl | skip
  case rw id a b => exact refs1_clr (c := .rw id a b) hY h
  case ptr id a b => exact refs1_clr (c := .ptr id a b) hY h
  case fn f caps =>
    simp only [clrV]
    congr 1
    have h' := List.all_eq_true.1 h
    exact (List.map_congr_left fun c hc => refs1_clr hY (h' c hc)).trans (List.map_id _)
theorem refsVs_clr {X Y : Nat → Bool} (hY : ∀ z, Y z = true → X z = true) {vs : List V1} (h : vs.all (refsV X) = true) : vs.map (clrV Y) = vs := by
  have h' := List.all_eq_true.1 h
  exact (List.map_congr_left fun c hc => refsV_clr hY (h' c hc)).trans (List.map_id _)
theorem refsA_clr {X Y : Nat → Bool} (hY : ∀ z, Y z = true → X z = true) : ∀ {v : AV}, refsA X v = true → clrA Y v = v
  | .one v, h => by simp only [clrA]; rw [refsV_clr hY h]
  | .agg vs, h => by simp only [clrA]; rw [refsVs_clr hY h]
  | .tup es, h => by
    simp only [clrA]
    congr 1
    have h' := List.all_eq_true.1 h
    refine (List.map_congr_left fun e he => ?_).trans (List.map_id _)
    rw [refsVs_clr hY (h' e he)]; rfl
  | .whn g v, h => by simp only [clrA]; rw [refsA_clr hY (v := v) h]
theorem refsO_clr {X Y : Nat → Bool} (hY : ∀ z, Y z = true → X z = true) {o : Obj} (h : refsO X o = true) : clrO Y o = o := by
  cases o with
  | box n sz vs => simp only [clrO]; rw [refsVs_clr hY h]
  | flat c => rfl
  | recs c => rfl

/-! ### Heaps that look alike -/
theorem Rel.alike {M : Mem} {s s2 : St} {a : Act} (hr : Rel M s a) (hn : s2.n = s.n) (hp : ∀ z, look z s2.hp = look z s.hp) (h : ∀ t x, look t s2.tm = some x → look t s.tm = some x) :
    ∃ M', Rel M' s2 a ∧ M'.w = M.w ∧ Ext big M M' := by
  have hM := hr.ok
  let M' : Mem := ⟨M.μ, s2.hp, M.w, M.free⟩
  have hlk : ∀ z, look z M'.H = look z M.H := fun z => by show look z s2.hp = _; rw [hp, hr.hp]
  have hlive : ∀ b, M'.live b → M.live b := by
    rintro b ⟨x, o, p, h1, h2⟩
    exact ⟨x, o, p, by rw [← hlk]; exact h1, h2⟩
  have hext : Ext noX M M' := ⟨⟨rfl, rfl, rfl, Nat.le_refl _, fun b _ hl => ⟨rfl, fun h => hl (hlive b h)⟩, fun b h => h, fun b h => .inl h⟩,
    fun x o _ hx => ⟨o, by rw [hlk]; exact hx, rfl, Nat.le_refl _, rfl, fun b p cur e _ hc => ⟨cur, hc, rfl⟩⟩⟩
  refine ⟨M', ⟨rfl, ?_, hr.defers, by rw [hn]; exact hr.size, fun d v hd => ?_⟩, rfl, hext.mono (fun x hx => by cases hx)⟩
  · refine ⟨fun b hb => ⟨(hM.fr b hb).1, fun h => (hM.fr b hb).2 (hlive b h)⟩, fun x y o1 o2 b p q hx hy hmx hmy => ?_, fun x o1 hx hm => ?_, fun x o1 b p hx hm => ?_⟩
    · rw [hlk] at hx hy; exact hM.inj x y o1 o2 b p q hx hy hmx hmy
    · rw [hlk] at hx; exact hM.none_ x o1 hx hm
    · rw [hlk] at hx
      obtain ⟨cur, e, g1, g2, g3⟩ := hM.obj x o1 b p hx hm
      refine ⟨cur, e, g1, g2, fun i hi j hj => ?_⟩
      obtain ⟨u, k1, k2, k3⟩ := g3 i hi j hj
      exact ⟨u, k1, k2, VR_ext0 hext k3⟩
  · obtain ⟨u, hu, hv⟩ := hr.tm d v (h d v hd)
    exact ⟨u, hu, AVR_ext0 hext hv⟩

/-! ### Reads see no more in a greater heap -/
def HSub (H H' : Heap) : Prop := ∀ z o, look z H = some o → look z H' = some o
theorem ptrInto_sub {H H' : Heap} (h : HSub H H') {v : V1} {r} (hp : ptrInto H v = some r) : ptrInto H' v = some r := by
  cases v <;> simp only [ptrInto] at hp ⊢ <;> first | exact hp | skip
  split at hp
  · rename_i o ho; rw [h _ _ ho]; exact hp
  · cases hp
theorem stLoad_sub {T : Nat → Option TI} {H H' : Heap} (h : HSub H H') {t : TypeId} {a : AV} {r} (hl : stLoad T H t a = some r) : stLoad T H' t a = some r := by
  unfold stLoad at hl ⊢
  split at hl
  · split at hl
    · rename_i ti own n z f i j hti hin
      rw [hti, ptrInto_sub h hin]
      exact hl
    · cases hl
  · cases hl
theorem stIndexAddr_sub {T : Nat → Option TI} {H H' : Heap} (h : HSub H H') {t : TypeId} {a b : AV} {r} (hl : stIndexAddr T H t a b = some r) : stIndexAddr T H' t a b = some r := by
  unfold stIndexAddr at hl ⊢
  split at hl
  · split at hl
    · split at hl
      · split at hl
        · split at hl
          · rename_i ho; rw [h _ _ ho]; exact hl
          · cases hl
        · exact hl
        · exact hl
        · cases hl
      · cases hl
    · split at hl
      · split at hl
        · split at hl
          · rename_i ho; rw [h _ _ ho]; exact hl
          · cases hl
        · exact hl
      · cases hl
    · cases hl
  · cases hl
theorem sliceSz_sub {H H' : Heap} (h : HSub H H') {e : Nat} {v : V1} (hs : sliceSz H e v = true) : sliceSz H' e v = true := by
  cases v <;> simp only [sliceSz] at hs ⊢ <;> first | exact hs | skip
  split at hs
  · rename_i o ho; rw [h _ _ ho]; exact hs
  · cases hs
theorem cond_sub {α : Type} {b b' : Bool} {x : Option α} {r : α} (hb : b = true → b' = true) (h : cond b x none = some r) : cond b' x none = some r := by
  cases b
  · cases h
  · rw [hb rfl]; exact h
theorem stSlice_sub {T : Nat → Option TI} {H H' : Heap} (h : HSub H H') {ev : Operand → Option AV} {t : TypeId} {lo hi mx : Option Operand} {a : AV} {r} (hl : stSlice T H ev t lo hi mx a = some r) : stSlice T H' ev t lo hi mx a = some r := by
  unfold stSlice at hl ⊢
  split at hl
  · split at hl
    · split at hl
      · split at hl
        · split at hl
          · exact cond_sub (sliceSz_sub h) hl
          · cases hl
        · cases hl
      · cases hl
    · split at hl
      · split at hl
        · rename_i ho; rw [h _ _ ho]; exact hl
        · cases hl
      · cases hl
    · cases hl
  · cases hl

section
variable {P : Program} {T : Nat → Option TI}
theorem stepPure_sub {H H' : Heap} (h : HSub H H') {ev : Operand → Option AV} {op : Op} {r} (hl : stepPure T H ev op = some r) : stepPure T H' ev op = some r := by
  cases op <;> simp only [stepPure] at hl ⊢ <;> first | exact hl | skip
  case indexAddr t x i =>
    split at hl
    · exact stIndexAddr_sub h hl
    · cases hl
  case slice t x lo hi mx =>
    split at hl
    · exact stSlice_sub h hl
    · cases hl
theorem owed_hp {n : Nat} {tm : List (Nat × AV)} {H : Heap} (H' : Heap) (g : Bool) : ∀ ts : List Nat, (⟨n, tm, H⟩ : St).owed g ts = (⟨n, tm, H'⟩ : St).owed g ts
  | [] => rfl
  | t :: r => by
    unfold St.owed
    rw [owed_hp H' g r]
theorem stepRd_sub {n : Nat} {tm : List (Nat × AV)} {H H' : Heap} (h : HSub H H') {g : Bool} {op : Op} {r} (hl : stepRd T ⟨n, tm, H⟩ g op = some r) : stepRd T ⟨n, tm, H'⟩ g op = some r := by
  unfold stepRd at hl ⊢
  split at hl
  · exact hl
  · rename_i t x
    rw [← owed_hp (n := n) (tm := tm) (H := H) H' g (tmpsOf [x])]
    show (match (⟨n, tm, H⟩ : St).ev g (tmpsOf [x]) x with | some v => (match stLoad T H' t v with | some (cs, u) => some ((⟨n, tm, H⟩ : St).owed g (tmpsOf [x]) ++ cs, u) | none => none) | none => none) = some r
    split at hl
    · rename_i v hv
      split at hl
      · rename_i cs u hst
        rw [hv]
        simp only
        rw [stLoad_sub h hst]
        exact hl
      · cases hl
    · cases hl
  · rename_i op1 h1 h2
    split at hl
    · rename_i cs u hst
      have := stepPure_sub (T := T) h hst
      rw [← owed_hp (n := n) (tm := tm) (H := H) H' g (tmpsOf _)]
      have e : ∀ ts, (⟨n, tm, H'⟩ : St).ev g ts = (⟨n, tm, H⟩ : St).ev g ts := fun _ => rfl
      rw [e]
      simp only at this ⊢
      rw [this]
      exact hl
    · cases hl

/-! ### New blocks -/
def freshOp : Op → Bool
  | .alloc _ => true
  | .box _ _ => true
  | .makeSlice _ _ _ => true
  | .buildSlice _ _ _ => true
  | _ => false
theorem stepMem_fresh {H : Heap} {ev : Operand → Option AV} {dst : Option Nat} {op : Op} {r : MR} (hf : freshOp op = true) (h : stepMem T H ev dst op = some r) :
    ∃ id o v, r.x = some id ∧ r.val = some v ∧ big id = true ∧ r.hp = ins id o (mapV (clrO (Nat.beq id)) H) ∧ ∀ H', stepMem T H' ev dst op = some ⟨r.cs, some v, ins id o (mapV (clrO (Nat.beq id)) H'), some id⟩ := by
  have hbig : ∀ d, big (100 + d) = true := fun d => Nat.ble_eq_true_of_le (by omega)
  have new : ∀ {d t cells}, stNew T H d t cells = some r → ∃ id o v, r.x = some id ∧ r.val = some v ∧ big id = true ∧ r.hp = ins id o (mapV (clrO (Nat.beq id)) H) ∧ ∀ H', stNew T H' d t cells = some ⟨r.cs, some v, ins id o (mapV (clrO (Nat.beq id)) H'), some id⟩ := by
    intro d t cells h
    unfold stNew at h ⊢
    split at h
    · split at h
      · split at h
        · cases h
          exact ⟨_, _, _, rfl, rfl, hbig d, rfl, fun H' => rfl⟩
        · cases h
      · cases h
    · cases h
  cases op <;> simp only [freshOp] at hf <;> first | (cases hf; done) | skip
  case alloc t =>
    simp only [stepMem] at h ⊢
    split at h
    · exact new h
    · cases h
  case box t x =>
    simp only [stepMem] at h ⊢
    split at h
    · exact new h
    · cases h
  case makeSlice t l c =>
    simp only [stepMem] at h ⊢
    split at h
    · rename_i d a b h1 h2
      unfold stMake at h ⊢
      split at h
      · split at h
        · split at h
          · split at h
            · rename_i o ho
              cases hz : (zeroFits _ && szFits _)
              · rw [hz] at h; cases h
              · rw [hz] at h
                simp only [cond_true, Option.some.injEq] at h
                subst h
                exact ⟨_, _, _, rfl, rfl, hbig d, rfl, fun H' => rfl⟩
            · cases h
          · cases h
        · cases h
      · cases h
    · cases h
  case buildSlice t n parts =>
    simp only [stepMem] at h ⊢
    split at h
    · rename_i d
      unfold stBuildSlice at h ⊢
      split at h
      · split at h
        · split at h
          · rename_i cells hc
            cases hz : (Nat.ble (n * _) 16777216 && Nat.ble 1 _ && Nat.beq (litObj _ n cells).sz _ && Nat.beq (litObj _ n cells).len n)
            · rw [hz] at h; cases h
            · rw [hz] at h
              simp only [cond_true, Option.some.injEq] at h
              subst h
              exact ⟨_, _, _, rfl, rfl, hbig d, rfl, fun H' => rfl⟩
          · cases h
        · cases h
      · cases h
    · cases h

/-! ### Calls -/
def seenV (H : Heap) : V1 → Bool
  | .rw id _ _ => (look id H).isSome
  | .fn _ caps => caps.all fun c => match c with | .rw id _ _ => (look id H).isSome | _ => true
  | _ => true
def seenA (H : Heap) : AV → Bool
  | .one v => seenV H v
  | .agg vs => vs.all (seenV H)
  | .tup es => es.all fun e => e.2.all (seenV H)
  | .whn _ v => seenA H v
theorem inV_sub {H H' : Heap} (h : HSub H H') (lent : Bool) {v : V1} (hs : (match v with | .rw id _ _ => (look id H).isSome | _ => true) = true) : inV [] H lent v = inV [] H' lent v := by
  cases v <;> simp only [inV] <;> first | rfl | skip
  case rw id off len =>
    simp only at hs
    cases ho : look id H with
    | none => rw [ho] at hs; cases hs
    | some o => rw [h _ _ ho]
theorem liftV_sub {H H' : Heap} (h : HSub H H') (lent : Bool) {v : V1} (hs : seenV H v = true) : liftV (inV [] H lent) v = liftV (inV [] H' lent) v := by
  cases v <;> first | rfl | skip
  case rw id off len => exact inV_sub h lent (v := .rw id off len) hs
  case fn f caps =>
    simp only [liftV]
    congr 1
    have h' := List.all_eq_true.1 hs
    exact List.map_congr_left fun c hc => inV_sub h lent (h' c hc)
theorem liftVs_sub {H H' : Heap} (h : HSub H H') (lent : Bool) {vs : List V1} (hs : vs.all (seenV H) = true) : vs.map (liftV (inV [] H lent)) = vs.map (liftV (inV [] H' lent)) := by
  have h' := List.all_eq_true.1 hs
  exact List.map_congr_left fun c hc => liftV_sub h lent (h' c hc)
theorem liftA_sub {H H' : Heap} (h : HSub H H') (lent : Bool) : ∀ {v : AV}, seenA H v = true → liftA (inV [] H lent) v = liftA (inV [] H' lent) v
  | .one v, hs => by simp only [liftA]; rw [liftV_sub h lent hs]
  | .agg vs, hs => by simp only [liftA]; rw [liftVs_sub h lent hs]
  | .tup es, hs => by
    simp only [liftA]
    congr 1
    have h' := List.all_eq_true.1 hs
    exact List.map_congr_left fun e he => by rw [liftVs_sub h lent (h' e he)]
  | .whn g v, hs => by simp only [liftA]; rw [liftA_sub h lent (v := v) hs]
def seenCall (l : List Oper) (k : Nat) (s : St) : Bool :=
  match l.drop k with
  | o :: _ =>
    (match guardOf l.toArray s o.guard, o.op with
    | some g, .call c =>
      (match c.callee with
      | .value x =>
        (match s.ev g (tmpsOf (x :: c.args.toList)) x, rawL (s.ev g (tmpsOf (x :: c.args.toList))) c.args.toList with
        | some (.one (.fn _ caps)), some avs => (avs ++ caps.map AV.one).all (seenA s.hp)
        | _, _ => false)
      | _ => false)
    | _, _ => false)
  | [] => false
theorem preCall_sub {n : Nat} {tm : List (Nat × AV)} {H H' : Heap} (h : HSub H H') {lent : Bool} {l : List Oper} {k : Nat} {p : Pre} (hpre : preCall [] lent l k ⟨n, tm, H⟩ = some p) (hs : seenCall l k ⟨n, tm, H⟩ = true) : preCall [] lent l k ⟨n, tm, H'⟩ = some p := by
  unfold preCall at hpre ⊢
  unfold seenCall at hs
  split at hpre
  · rename_i o r hl
    rw [hl] at hs
    simp only at hs
    split at hpre
    · rename_i g c hg hop
      rw [hg] at hs
      rw [hop] at hs
      simp only at hs
      have hg' : guardOf l.toArray (⟨n, tm, H'⟩ : St) o.guard = some g := hg
      rw [hg', hop]
      simp only
      split at hpre
      · rename_i x hx
        rw [hx] at hs
        simp only at hs
        split at hpre
        · rename_i f caps avs hh e1 e2 e3
          rw [e1, e2] at hs
          simp only at hs
          have e1' : (⟨n, tm, H'⟩ : St).ev g (tmpsOf (x :: c.args.toList)) x = some (.one (.fn f caps)) := e1
          have e2' : rawL ((⟨n, tm, H'⟩ : St).ev g (tmpsOf (x :: c.args.toList))) c.args.toList = some avs := e2
          simp only [e1', e2', inH] at e3 ⊢
          rw [← hpre]
          cases e3
          rw [← owed_hp (n := n) (tm := tm) (H := H) H' g (tmpsOf (x :: c.args.toList))]
          congr 2
          have h' := List.all_eq_true.1 hs
          exact (List.map_congr_left fun v hv => liftA_sub h lent (h' v hv)).symm
        · cases hpre
      · cases hpre
    · cases hpre
  · cases hpre

/-! ### One operation: what it owes, its value, its new blocks -/
def newB (lent : Bool) (c : CallI) : Option Heap := outH c.hr lent (outV c.new lent) c.new []
def calmVal2 (P : Program) (T : Nat → Option TI) (tab : Tab) (lent : Bool) (l : List Oper) (i : Nat) (s : St) : Option (List Prop × AV × Heap) :=
  match l.drop i with
  | o :: _ =>
    (match guardOf l.toArray s o.guard with
    | some g =>
      (match stepRd T s g o.op with
      | some (cs, v) => some (wrapC o.guard g cs, wrapG o.guard g v, [])
      | none => cond (freshOp o.op)
        (cond g (match stepMem T s.hp (s.ev true (tmpsOf o.op.operands.toList)) o.dst o.op with
          | some r => (match r.x, r.val with
            | some id, some v => (match look id r.hp with | some ob => some (s.owed true (tmpsOf o.op.operands.toList) ++ r.cs, v, [(id, ob)]) | none => none)
            | _, _ => none)
          | none => none) none)
        (match preCall [] lent l i s, look i tab with
        | some p, some c => cond (seenCall l i s) (match c.new with
          | [] => some ([p.g = true → (AllP p.cs ∧ p.args = c.args ∧ ACall P p.f c.args [] (fun v H => v = c.res ∧ H = []))], wrapG o.guard p.g (liftA (outV [] lent) c.res), [])
          | _ :: _ => cond (p.g && (okR c.new && allBig c.new)) (match newB lent c with
            | some bs => some ([AllP p.cs ∧ p.args = c.args ∧ ACall P p.f c.args [] (fun v H => v = c.res ∧ H = c.hr)], liftA (outV c.new lent) c.res, bs)
            | none => none) none) none
        | _, _ => none))
    | none => none)
  | [] => none

theorem outH_acc {H1 : Heap} {lent : Bool} {g : V1 → V1} : ∀ {ρ : List (Nat × Nat)} {acc h : Heap} (acc' : Heap), outH H1 lent g ρ acc = some h → ∃ h', outH H1 lent g ρ acc' = some h'
  | [], _, _, acc', _ => ⟨acc', rfl⟩
  | (x, y) :: r, acc, h, acc', e => by
    unfold outH at e ⊢
    split at e
    · rename_i o h1 e1 e2
      obtain ⟨h2, e3⟩ := outH_acc (ρ := r) acc' e2
      rw [e1, e3]
      simp only
      cases hb : lentOk lent o
      · rw [hb] at e; cases e
      · exact ⟨_, rfl⟩
    · cases e
theorem inH_nil_hin {lent : Bool} {l : List Oper} {k : Nat} {s : St} {p : Pre} (hp : preCall [] lent l k s = some p) : p.hin = [] := by
  unfold preCall at hp
  split at hp
  · split at hp
    · split at hp
      · split at hp
        · rename_i e1 e2 e3
          simp only [inH, Option.some.injEq] at e3
          cases hp
          exact e3.symm
        · cases hp
      · cases hp
    · cases hp
  · cases hp
theorem clrA_none {X : Nat → Bool} (hX : ∀ z, X z = false) (tm : List (Nat × AV)) : mapV (clrA X) tm = tm := by
  have : X = noX := funext hX
  rw [this]
  exact mapV_id (fun v => clrA_no v) tm
theorem clrO_none {X : Nat → Bool} (hX : ∀ z, X z = false) (o : Option Obj) : o.map (clrO X) = o := by
  have : X = noX := funext hX
  rw [this]
  cases o with
  | none => rfl
  | some o => simp only [Option.map_some, clrO_no]

def bsX (bs : Heap) (z : Nat) : Bool := (look z bs).isSome
/-- The state behind an operation. -/
structure Behind (d : Nat) (v : AV) (bs : Heap) (s s2 : St) : Prop where
  n : s2.n = s.n
  tm : s2.tm = ins d v (mapV (clrA (bsX bs)) s.tm)
  new : ∀ z o, look z bs = some o → look z s2.hp = some o
  old : ∀ z, look z bs = none → look z s2.hp = (look z s.hp).map (clrO (bsX bs))

theorem calmVal2_sound {l : List Oper} {tab : Tab} {lent : Bool} {i d : Nat} {cs : List Prop} {v : AV} {bs : Heap} {o : Oper} {r : List Oper} {S s : St} (hT : ∀ t i, T t = some i → TF P t i) (hl : l.drop i = o :: r) (hd : o.dst = some d) (hdn : Nat.ble (d + 1) s.n = true)
    (h : calmVal2 P T tab lent l i S = some (cs, v, bs)) (hc : AllP cs) (hn : S.n = s.n) (hH : HSub S.hp s.hp) (hsub : ∀ t x, look t S.tm = some x → look t s.tm = some x) {M : Mem} {a : Act} {Kx : Act → World → Prop} {Q : Exit → Act → World → Prop} (hr : Rel M s a)
    (hk : ∀ M' a' s2, Ext big M M' → Rel M' s2 a' → Behind d v bs s s2 → Kx a' M'.w) : wpOp P l.toArray Q i Kx a M.w := by
  obtain ⟨Sn, Stm, SH⟩ := S
  simp only at hn hH hsub
  have hput : ∀ x tm, putD o.dst x s.n tm = some (ins d x tm) := fun x tm => by rw [hd]; simp only [putD, hdn, cond_true]
  have hrS : Rel M ⟨Sn, Stm, s.hp⟩ a := hr.sub hn rfl hsub
  have plain : ∀ x, Behind d x [] s ⟨s.n, ins d x s.tm, s.hp⟩ := fun x => ⟨rfl, (by rw [clrA_none (X := bsX []) (fun z => rfl)]), (fun z o hz => by cases hz), (fun z _ => by rw [clrO_none (X := bsX []) (fun z => rfl)])⟩
  unfold calmVal2 at h
  rw [hl] at h
  simp only at h
  split at h
  · rename_i g hgo
    have hgo' : guardOf l.toArray (⟨Sn, Stm, s.hp⟩ : St) o.guard = some g := hgo
    have hw := guard_sound hrS hgo'
    split at h
    · rename_i cs1 v1 hrd
      simp only [Option.some.injEq, Prod.mk.injEq] at h
      obtain ⟨rfl, rfl, rfl⟩ := h
      refine wpOp_of_ok ?_
      unfold OpOk
      rw [hl]
      simp only
      cases hg : g
      · rw [if_neg (by rw [hw, hg]; decide)]
        have hgd : ∃ q, o.guard = some q := by
          cases hq : o.guard with
          | none => rw [hq] at hgo; simp only [guardOf, Option.some.injEq] at hgo; rw [← hgo] at hg; cases hg
          | some q => exact ⟨q, rfl⟩
        obtain ⟨q, hq⟩ := hgd
        have hv : AVR M (wrapG o.guard g v1) undef := by
          rw [hq, hg]; exact ⟨fun h => (by cases h), fun _ => rfl⟩
        exact hk M _ _ (Ext.refl _ _) (hr.put (hput _ _) hv) (plain _)
      · rw [if_pos (by rw [hw, hg])]
        refine .inl ?_
        rw [hg] at hc hrd
        obtain ⟨u, hu, huv⟩ := stepRd_sound (P := P) hT rfl hrS (stepRd_sub hH hrd) (wrapC_true hc)
        unfold Oper.wp
        rw [hu]
        have hv : AVR M (wrapG o.guard g v1) u := by
          unfold wrapG
          split
          · exact huv
          · rw [hg]; exact ⟨fun _ => huv, fun h => by cases h⟩
        exact hk M _ _ (Ext.refl _ _) (hr.put (hput _ _) hv) (plain _)
    · cases hf : freshOp o.op
      · -- a call
        rw [hf] at h
        simp only [cond_false] at h
        split at h
        · rename_i p c hpre htab
          cases hseen : seenCall l i ⟨Sn, Stm, SH⟩
          · rw [hseen] at h; cases h
          · rw [hseen] at h
            simp only [cond_true] at h
            have hpre1 := preCall_sub (n := Sn) (tm := Stm) hH hpre hseen
            have hpre2 : preCall [] lent l i s = some p := preCall_mono (S := ⟨Sn, Stm, s.hp⟩) hsub rfl hpre1
            split at h
            · simp only [Option.some.injEq, Prod.mk.injEq] at h
              obtain ⟨rfl, rfl, rfl⟩ := h
              have hcond := hc.1
              refine wpOp_of_ok (pure_op lent p c.args c.res ⟨s.n, ins d (wrapG o.guard p.g (liftA (outV [] lent) c.res)) s.tm, s.hp⟩ hpre2 ?_ (fun hg => (hcond hg).1) (fun hg => (hcond hg).2.1) (fun hg => (hcond hg).2.2) hr
                (fun M' a' he' hr' => hk M' a' _ he' hr' (plain _)))
              unfold pureS
              rw [hl]
              simp only
              cases hgd : o.guard with
              | none => simp only [hput, wrapG]
              | some q => simp only [hput, wrapG]
            · cases hb : (p.g && (okR c.new && allBig c.new))
              · rw [hb] at h; cases h
              · rw [hb] at h
                simp only [cond_true] at h
                simp only [Bool.and_eq_true] at hb
                split at h
                · rename_i bs1 hbs
                  simp only [Option.some.injEq, Prod.mk.injEq] at h
                  obtain ⟨rfl, rfl, rfl⟩ := h
                  obtain ⟨k1, k2, k3⟩ := hc.1
                  have hin := inH_nil_hin hpre2
                  have hm : missS l i s = some ⟨s.n, ins d (.whn false (.one .any)) s.tm, s.hp⟩ := by
                    unfold missS; rw [hl]; simp only [hput]
                  refine wpOp_of_ok (call_op (Φ := fun v H => v = c.res ∧ H = c.hr) [] c.new lent p c.args hpre2 hm (by simp only [List.nil_append, hb.2.1, hb.2.2]; rfl) (fun _ => k1) k2 (fun _ => by rw [hin]; exact k3) hr (fun _ v Hr hvH => ?_) (fun hg => by rw [hb.1] at hg; cases hg))
                  obtain ⟨rfl, rfl⟩ := hvH
                  obtain ⟨H2, hH2⟩ := outH_acc (mapV (clrO (newN c.new)) s.hp) hbs
                  have l1 := outH_look hbs
                  have l2 := outH_look hH2
                  have hXe : bsX bs1 = newN c.new := by
                    funext z
                    unfold bsX newN
                    cases hz : backN c.new z with
                    | none => rw [(l1 z).2 hz]; rfl
                    | some x =>
                      obtain ⟨ob, _, _, e3⟩ := (l1 z).1 x hz
                      rw [e3]; rfl
                  refine ⟨⟨s.n, ins d (liftA (outV c.new lent) c.res) (mapV (clrA (newN c.new)) s.tm), H2⟩, ?_, fun M' a' he' hr' => hk M' a' _ he' hr' ⟨rfl, by rw [hXe], fun z ob hz => ?_, fun z hz => ?_⟩⟩
                  · unfold outS
                    rw [hl]
                    simp only [List.nil_append, hH2, hput]
                  · cases hbz : backN c.new z with
                    | none => rw [(l1 z).2 hbz] at hz; cases hz
                    | some x =>
                      obtain ⟨o1, e1, _, e3⟩ := (l1 z).1 x hbz
                      obtain ⟨o2, f1, _, f3⟩ := (l2 z).1 x hbz
                      rw [e1] at f1
                      cases f1
                      rw [e3] at hz
                      show look z H2 = _
                      rw [f3, hz]
                  · cases hbz : backN c.new z with
                    | none =>
                      show look z H2 = _
                      rw [(l2 z).2 hbz, look_mapV, hXe]
                    | some x =>
                      obtain ⟨o1, e1, _, e3⟩ := (l1 z).1 x hbz
                      rw [e3] at hz; cases hz
                · cases h
        · cases h
      · -- a new block
        rw [hf] at h
        simp only [cond_true] at h
        cases hg : g
        · rw [hg] at h; cases h
        · rw [hg] at h
          simp only [cond_true] at h
          split at h
          · rename_i rr hmem
            obtain ⟨id, ob, v0, x1, x2, x3, x4, x5⟩ := stepMem_fresh hf hmem
            rw [x1, x2] at h
            simp only at h
            have hlk : look id rr.hp = some ob := by rw [x4, look_ins, if_pos rfl]
            rw [hlk] at h
            simp only [Option.some.injEq, Prod.mk.injEq] at h
            obtain ⟨rfl, rfl, rfl⟩ := h
            obtain ⟨c1, c2⟩ := AllP_append.1 hc
            have hev : ∀ x v, (⟨Sn, Stm, s.hp⟩ : St).ev true (tmpsOf o.op.operands.toList) x = some v → AVR M v (a.eval x) := ev_sound rfl hrS (by rw [owed_hp (H' := SH)]; exact c1)
            have hm2 := x5 M.H
            obtain ⟨n, M', hrun, hHM, hok, hext, hval⟩ := stepMem_sound (P := P) hT hr.ok hev hm2 c2
            obtain ⟨u, rfl, huv⟩ := hval
            refine wpOp_of_ok ?_
            unfold OpOk
            rw [hl]
            simp only
            rw [if_pos (by rw [hw, hg])]
            refine .inl ?_
            unfold Oper.wp
            rw [hrun]
            have hXe : bsX [(id, ob)] = Nat.beq id := by
              funext z
              unfold bsX look look
              cases Nat.beq id z <;> rfl
            have hst := hr.step hHM hok hext
            refine hk M' _ ⟨s.n, ins d v0 (mapV (clrA (Nat.beq id)) s.tm), ins id ob (mapV (clrO (Nat.beq id)) M.H)⟩ (hext.mono fun x hx => by
              have := Nat.eq_of_beq_eq_true hx; subst this; exact x3) (hst.put (hput _ _) huv) ⟨rfl, by rw [hXe], fun z o1 hz => ?_, fun z hz => ?_⟩
            · unfold look at hz
              cases hbz : Nat.beq id z
              · rw [hbz] at hz; cases hz
              · rw [hbz] at hz
                simp only [cond_true, Option.some.injEq] at hz
                subst hz
                have := Nat.eq_of_beq_eq_true hbz
                subst this
                show look id (ins id ob _) = _
                rw [look_ins, if_pos rfl]
            · have hne : z ≠ id := by
                rintro rfl
                unfold look at hz
                rw [beq_self] at hz; cases hz
              show look z (ins id ob _) = _
              rw [look_ins, if_neg hne, look_mapV, hXe, hr.hp]
          · cases h
  · cases h
end
end Go.Ab
