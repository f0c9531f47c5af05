/- The abstract machine, part 8: stores, new blocks, append; the step that may change the memory is sound. -/
import Derived.Test.YtdglhalkilneaaaAb7
namespace Go.Ab

/-- What a step comes to: what it owes, its value (if it has one), the heap behind it, and the number that it has bound anew. -/
structure MR where
  cs : List Prop
  val : Option AV
  hp : Heap
  x : Option Nat

def clrX : Option Nat → Nat → Bool
  | none => noX
  | some id => Nat.beq id

def stStore (T : Nat → Option TI) (H : Heap) (t : TypeId) : AV → AV → Option MR
  | .one (.ptr id i j), v =>
    (match T t, look id H, v.cells with
    | some ti, some o, some vs =>
      (match o.put i j vs with
      | some o' => cond (Nat.beq vs.length ti.sz) (some ⟨[i < o.len], none, ins id o' H, none⟩) none
      | none => none)
    | _, _, _ => none)
  | _, _ => none

def mkObj (ti : TI) (cells : List V1) : Option Obj :=
  match ti.kind, ti.c0 with
  | .array _, some c => cond (Nat.beq c.len 0) ((C0.pushAll (cells.length / c.sz) c cells).map .flat) none
  | _, _ => some (.box 1 cells.length cells)

def stNew (T : Nat → Option TI) (H : Heap) (d : Nat) (t : TypeId) (cells : TI → Option (List V1)) : Option MR :=
  match T t with
  | some ti =>
    (match cells ti with
    | some cs =>
      (match mkObj ti cs with
      | some o => some ⟨[], some (.one (.ptr (100 + d) 0 0)), ins (100 + d) (clrO (Nat.beq (100 + d)) o) (mapV (clrO (Nat.beq (100 + d))) H), some (100 + d)⟩
      | none => none)
    | none => none)
  | none => none

def C0.zeros : C0 → Nat → Option C0
  | .ints k [], n => some (.ints k (List.replicate n 0))
  | .bools [], n => some (.bools (List.replicate n false))
  | .arcs [], n => some (.arcs (List.replicate n ⟨0, 0, 0⟩))
  | _, _ => none
def C1.zeros : C1 → Nat → Option C1
  | .rows [], n => some (.rows (List.replicate n []))
  | .brows [], n => some (.brows (List.replicate n []))
  | _, _ => none
def zeroObj (ie : TI) (n : Nat) : Option Obj :=
  match ie.c0, ie.c1 with
  | some c, _ => (C0.zeros c n).map .flat
  | none, some c => (C1.zeros c n).map .recs
  | none, none => none

/-- The cells of an element's zero value, as the contents have them. -/
def zeroFits (ie : TI) : Bool :=
  match ie.c0, ie.c1, ie.zero with
  | some (.ints k []), _, [.int k' n] => kEq k k' && decide (n = 0)
  | some (.bools []), _, [.bool b] => !b
  | some (.arcs []), _, [.int .i64 a, .int .i64 b, .int .i64 c] => decide (a = 0) && decide (b = 0) && decide (c = 0)
  | none, some (.rows []), [.nils] => true
  | none, some (.brows []), [.nils] => true
  | _, _, _ => false

/-- The size of such an element is that of its zero value. -/
def szFits (ie : TI) : Bool := Nat.beq ie.sz ie.zero.length

def stMake (T : Nat → Option TI) (H : Heap) (d : Nat) (t : TypeId) : AV → AV → Option MR
  | .one (.int _ l), .one (.int _ c) =>
    (match T t with
    | some { kind := .slice, elem, .. } =>
      (match T elem with
      | some ie =>
        (match zeroObj ie l.toNat with
        | some o =>
          cond (zeroFits ie && szFits ie)
            (some ⟨[0 ≤ l, l ≤ c, (ie.bytes : Int) * c ≤ 281474976710656, c ≤ 9223372036854775807], some (.one (.rw (100 + d) 0 l.toNat)),
              ins (100 + d) (clrO (Nat.beq (100 + d)) o) (mapV (clrO (Nat.beq (100 + d))) H), some (100 + d)⟩) none
        | none => none)
      | none => none)
    | _ => none)
  | _, _ => none

def litObj (ie : TI) (len : Nat) (cells : List V1) : Obj :=
  match ie.c0 with
  | some c => (match C0.pushAll len c cells with | some c' => .flat c' | none => .box len ie.sz cells)
  | none => (match ie.c1 with
    | some c => (match C1.pushAll len c cells with | some c' => .recs c' | none => .box len ie.sz cells)
    | none => .box len ie.sz cells)

def stBuildSlice (T : Nat → Option TI) (H : Heap) (ev : Operand → Option AV) (d : Nat) (t : TypeId) (len : Nat) (parts : List (Nat × Operand)) : Option MR :=
  match T t with
  | some { kind := .slice, elem, .. } =>
    (match T elem, partsCells ev parts with
    | some ie, some ps =>
      (match fillA (fun i => some (i * ie.sz, ie.sz)) (List.replicate (len * ie.sz) .any) ps with
      | some cells =>
        cond (Nat.ble (len * ie.sz) 16777216 && Nat.ble 1 ie.sz && Nat.beq (litObj ie len cells).sz ie.sz && Nat.beq (litObj ie len cells).len len)
          (some ⟨[], some (.one (.rw (100 + d) 0 len)), ins (100 + d) (clrO (Nat.beq (100 + d)) (litObj ie len cells)) (mapV (clrO (Nat.beq (100 + d))) H), some (100 + d)⟩) none
      | none => none)
    | _, _ => none)
  | _ => none

/-- What is appended: so many elements, and their cells. -/
inductive Src where
  | c0 (c : C0)
  | c1 (c : C1)
  | cells (n : Nat) (vs : List V1)
def Src.len : Src → Nat
  | .c0 c => c.len
  | .c1 c => c.len
  | .cells n _ => n
def srcOf (H : Heap) : V1 → Option Src
  | .ro c => some (.c0 c)
  | .rs c => some (.c1 c)
  | .nils => some (.cells 0 [])
  | .rw id off len =>
    (match look id H with
    | some (.flat c) => some (.c0 (c.sub off (nadd off len)))
    | some (.recs c) => some (.c1 (c.sub off (nadd off len)))
    | some (.box _ sz vs) => some (.cells len ((vs.drop (off * sz)).take (len * sz)))
    | none => none)
  | _ => none
def Obj.app : Obj → Src → Option Obj
  | .flat c, .c0 c2 => (c.app c2).map .flat
  | .flat c, .cells n vs => (C0.pushAll n c vs).map .flat
  | .recs c, .c1 c2 => (c.app c2).map .recs
  | .recs c, .cells n vs => (C1.pushAll n c vs).map .recs
  | _, _ => none
/-- May it be appended to? -/
def Obj.grows : Obj → Bool
  | .box _ _ _ => false
  | _ => true
def Obj.from_ : Obj → Nat → Obj
  | .flat c, off => .flat (c.sub off c.len)
  | .recs c, off => .recs (c.sub off c.len)
  | o, _ => o
def emptyObj (ie : TI) : Option Obj :=
  match ie.c0, ie.c1 with
  | some c, _ => some (.flat c)
  | none, some c => some (.recs c)
  | none, none => none

/-- The object and the number that an append goes by: its contents ahead of it. -/
def appBase (H : Heap) (ie : TI) (d : Nat) : V1 → Option (Nat × Obj × Nat)
  | .rw id off len =>
    (match look id H with
    | some o => cond o.grows (some (id, (cond (Nat.beq off 0) o (o.from_ off)), nadd off len)) none
    | none => none)
  | .nils => (match emptyObj ie with | some o => cond (Nat.beq o.len 0) (some (100 + d, o, 0)) none | none => none)
  | _ => none

def fullLen (H : Heap) : V1 → Nat
  | .rw id _ _ => (match look id H with | some o => o.len | none => 0)
  | _ => 0

/-- The length behind an append: no sum behind an empty slice. -/
def len2 : V1 → Nat → Nat → Nat
  | .nils, _, b => b
  | _, a, b => a + b
def stAppend (T : Nat → Option TI) (H : Heap) (d : Nat) (t : TypeId) : AV → AV → Option MR
  | .one s, .one x =>
    (match T t with
    | some { kind := .slice, elem, .. } =>
      (match T elem with
      | some ie =>
        (match appBase H ie d s, srcOf H x with
        | some (id, o, full), some src =>
          (match o.app src with
          | some o' =>
            cond (Nat.beq o.sz ie.sz && Nat.ble 1 ie.sz && sliceSz H ie.sz x)
              (some ⟨[full = fullLen H s, (o.len + src.len) * ie.bytes ≤ 140737488355328, o.len + src.len ≤ 9223372036854775807], some (.one (.rw id 0 (len2 s o.len src.len))),
                ins id o' (mapV (clrO (Nat.beq id)) H), some id⟩) none
          | none => none)
        | _, _ => none)
      | none => none)
    | _ => none)
  | _, _ => none

def stepMem (T : Nat → Option TI) (H : Heap) (ev : Operand → Option AV) (dst : Option Nat) : Op → Option MR
  | .load t x => (match ev x with | some a => (match stLoad T H t a with | some (cs, v) => some ⟨cs, some v, H, none⟩ | none => none) | none => none)
  | .store t a v => (match ev a, ev v with | some p, some u => stStore T H t p u | _, _ => none)
  | .alloc t => (match dst with | some d => stNew T H d t (fun ti => some ti.zero) | none => none)
  | .box t x => (match dst, ev x with | some d, some v => stNew T H d t (fun ti => (match v.cells with | some vs => cond (Nat.beq vs.length ti.sz) (some vs) none | none => none)) | _, _ => none)
  | .makeSlice t l c => (match dst, ev l, ev c with | some d, some a, some b => stMake T H d t a b | _, _, _ => none)
  | .buildSlice t n parts => (match dst with | some d => stBuildSlice T H ev d t n parts.toList | none => none)
  | .call c =>
    (match c.callee, dst, c.args.toList, c.argTypes.toList with
    | .builtin .append, some d, [s, x], [t, t'] =>
      (match ev s, ev x with
      | some a, some b => cond (Nat.beq t t') (stAppend T H d t a b) none
      | _, _ => none)
    | _, _, _, _ => none)
  | _ => none

/-- What is shown of a step. -/
def MSound (P : Program) (M : Mem) (ρ : Operand → Value) (o : Oper) (r : MR) : Prop :=
  ∃ (n : Next) (M' : Mem), (execOp ρ o).run P M.w = .ok n M'.w ∧ M'.H = r.hp ∧ MOk M' ∧ Ext (clrX r.x) M M' ∧
    (match r.val with
    | some v => ∃ u, n = .value u ∧ AVR M' v u
    | none => n = .skip)

section
variable {P : Program} {T : Nat → Option TI} {M : Mem}

theorem cells_list {vs : List V1} {u : Value} (h : CellsR M vs u.cells) : u.cells.toList.length = vs.length ∧ ∀ (d : Nat) (v : V1), vs[d]? = some v → ∃ x, u.cells.toList[d]? = some x ∧ x.oneCell' = true ∧ VR M v x := by
  refine ⟨by simpa using h.1, fun d v hd => ?_⟩
  obtain ⟨x, hx, hv⟩ := h.2 d v hd
  exact ⟨x, by simpa using hx, VR_oneCell hv, hv⟩

theorem cells_one {vs : List V1} {cs : Array Value} (h : CellsR M vs cs) : ∀ u ∈ cs.toList, u.oneCell' = true := by
  intro u hu
  obtain ⟨k, hk⟩ := List.mem_iff_getElem?.1 hu
  have hlt : k < vs.length := by
    have := (List.getElem?_eq_some_iff.1 hk).1
    have := h.1
    simp at *
    omega
  obtain ⟨x, hx, hv⟩ := h.2 k _ (List.getElem?_eq_getElem hlt)
  have : x = u := by
    rw [Array.getElem?_toList] at hk
    rw [hk] at hx
    exact (Option.some.inj hx).symm
  subst this
  exact VR_oneCell hv

theorem stStore_sound {t : TypeId} {a v : AV} {ua uv : Value} {r : MR} {ρ : Operand → Value} {o : Oper} {xa xv : Operand} (hT : ∀ t i, T t = some i → TF P t i) (hM : MOk M) (ho : o.op = .store t xa xv) (hxa : ρ xa = ua) (hxv : ρ xv = uv)
    (h : stStore T M.H t a v = some r) (ha : AVR M a ua) (hv : AVR M v uv) (hc : AllP r.cs) : MSound P M ρ o r := by
  unfold stStore at h
  split at h
  · rename_i id i j
    split at h
    · rename_i ti ob vs hti hl hcells
      split at h
      · rename_i o' hput
        cases hb : Nat.beq vs.length ti.sz
        · rw [hb] at h; cases h
        · rw [hb] at h
          have hsz := Nat.eq_of_beq_eq_true hb
          simp only [cond_true, Option.some.injEq] at h
          subst h
          obtain ⟨ob', b, p, hl', hm, rfl⟩ := ha
          rw [hl] at hl'
          cases hl'
          have hcr := CellsR_cells hv hcells
          obtain ⟨hlen, hvs⟩ := cells_list hcr
          obtain ⟨cur, e, hcur, _, _⟩ := hM.obj id ob b p hl hm
          obtain ⟨hfit, hok, hext⟩ := MOk_store hM hl hm hc.1 (Obj.put_ok hput hc.1) hlen hvs hcur
          have hst := run_storeCells_at P b (p + (i * ob.sz + j)) e uv.cells.toList 0 cur M.w hcur (by simpa using hfit) (cells_one hcr)
          refine ⟨.skip, _, ?_, rfl, hok, hext, rfl⟩
          have hF := hT _ _ hti
          have hne : ¬ (uv.cells.size ≠ ti.sz) := by
            have := hcr.1
            omega
          simp only [execOp, ho, hxa, hxv, Instr.storeAt, Instr.sureAddr, storeVar, Sem.run_bind, Sem.run_pure, Result.andThen_ok, sizeOf_run hF, Sem.run_ite, if_neg hne, hst, Nat.add_zero]
      · cases h
    · cases h
  · cases h

theorem alloc_bind (hM : MOk M) (id : Nat) (o : Obj) (cur : Array Value) (e : TypeId) (w1 : World) (hh : w1.heap = M.w.heap) (hos : w1.os = M.w.os) (ht : w1.tape = M.w.tape) (hout : w1.output = M.w.output)
    (hfit : o.len * o.sz ≤ cur.size) (hc : ∀ i, i < o.len → ∀ j, j < o.sz → ∃ u, cur[i * o.sz + j]? = some u ∧ u.oneCell' = true ∧ VR M (o.cell i j) u) :
    MOk ⟨fun x => if x = id then some (M.w.heap.size, 0) else M.μ x, ins id (clrO (Nat.beq id) o) (mapV (clrO (Nat.beq id)) M.H), w1.alloc (.cells cur e), M.free⟩ ∧
    Ext (Nat.beq id) M ⟨fun x => if x = id then some (M.w.heap.size, 0) else M.μ x, ins id (clrO (Nat.beq id) o) (mapV (clrO (Nat.beq id)) M.H), w1.alloc (.cells cur e), M.free⟩ := by
  refine MOk_bind hM id o M.w.heap.size 0 cur e (w1.alloc (.cells cur e)) hos ht hout (by simp [hh]) ?_ ?_ ?_ (.inl (Nat.le_refl _)) (by omega) ?_
  · intro k hk hne
    rw [heap_alloc_old w1 _ (by rw [hh]; exact hk), hh]
  · rw [← hh]; exact heap_alloc_new w1 _
  · intro y oy q hy hm
    obtain ⟨cur', e', h1, _⟩ := hM.obj y oy _ q hy hm
    have := (Array.getElem?_eq_some_iff.1 h1).1
    omega
  · intro i hi j hj
    rw [Nat.zero_add]
    exact hc i hi j hj

theorem mkObj_ok {ti : TI} {cells : List V1} {o : Obj} {cs : Array Value} (h : mkObj ti cells = some o) (hc : CellsR M cells cs) :
    o.len * o.sz ≤ cs.size ∧ ∀ i, i < o.len → ∀ j, j < o.sz → ∃ u, cs[i * o.sz + j]? = some u ∧ u.oneCell' = true ∧ VR M (o.cell i j) u := by
  unfold mkObj at h
  have hbox : some (Obj.box 1 cells.length cells) = some o → o.len * o.sz ≤ cs.size ∧ ∀ i, i < o.len → ∀ j, j < o.sz → ∃ u, cs[i * o.sz + j]? = some u ∧ u.oneCell' = true ∧ VR M (o.cell i j) u := by
    intro h
    simp only [Option.some.injEq] at h
    subst h
    refine ⟨by simp [Obj.len, Obj.sz, hc.1], fun i hi j hj => ?_⟩
    simp only [Obj.len, Obj.sz] at hi hj
    have hi0 : i = 0 := by omega
    subst hi0
    obtain ⟨u, hu, hv⟩ := hc.2 j _ (List.getElem?_eq_getElem hj)
    refine ⟨u, by simpa using hu, VR_oneCell hv, ?_⟩
    simp only [Obj.cell, Nat.zero_mul, Nat.zero_add, List.getD_eq_getElem?_getD, List.getElem?_eq_getElem hj, Option.getD_some]
    exact hv
  split at h
  · rename_i c _ _
    cases hcl0 : Nat.beq c.len 0
    · rw [hcl0] at h; cases h
    rw [hcl0] at h
    have hcl := Nat.eq_of_beq_eq_true hcl0
    simp only [cond_true, Option.map_eq_some_iff] at h
    obtain ⟨c', hp, rfl⟩ := h
    obtain ⟨hl, g⟩ := C0.pushAll_ok (M := M) hp
    have hsz : c'.sz = c.sz := g.sz
    generalize hn : cells.length / c.sz = n at *
    have hlen : c'.len = n := by rw [g.len, hcl]; omega
    refine ⟨by simp only [Obj.len, Obj.sz, hlen, hsz, hc.1, hl]; exact Nat.le_refl _, fun i hi j hj => ?_⟩
    simp only [Obj.len, Obj.sz, hlen, hsz] at hi hj ⊢
    have hin : (i + 1) * c.sz ≤ n * c.sz := Nat.mul_le_mul_right _ hi
    rw [Nat.add_mul, Nat.one_mul] at hin
    have hk : i * c.sz + j < cells.length := by omega
    obtain ⟨u, hu, hv⟩ := hc.2 _ _ (List.getElem?_eq_getElem hk)
    refine ⟨u, hu, VR_oneCell hv, ?_⟩
    have := g.new i j hi hj u (by simp only [List.getD_eq_getElem?_getD, List.getElem?_eq_getElem hk, Option.getD_some]; exact hv)
    rw [hcl, Nat.zero_add] at this
    exact this
  · exact hbox h

theorem stNew_sound {d : Nat} {t : TypeId} {F : TI → Option (List V1)} {r : MR} {o : Oper} {ρ : Operand → Value} {val : Value} (_hT : ∀ t i, T t = some i → TF P t i) (hM : MOk M) (h : stNew T M.H d t F = some r)
    (hval : ∀ ti cs, T t = some ti → F ti = some cs → CellsR M cs val.cells)
    (hrun : (execOp ρ o).run P M.w = .ok (.value (.pointer (some ⟨M.w.heap.size, 0, none⟩))) (M.w.alloc (.cells val.cells t))) : MSound P M ρ o r := by
  unfold stNew at h
  split at h
  · rename_i ti hti
    split at h
    · rename_i cs hcs
      split at h
      · rename_i ob hob
        simp only [Option.some.injEq] at h
        subst h
        obtain ⟨h1, h2⟩ := mkObj_ok hob (hval ti cs hti hcs)
        obtain ⟨hok, hext⟩ := alloc_bind hM (100 + d) ob val.cells t M.w rfl rfl rfl rfl h1 h2
        refine ⟨_, _, hrun, rfl, hok, hext, _, rfl, clrO (Nat.beq (100 + d)) ob, M.w.heap.size, 0, ?_, ?_, ?_⟩
        · show look (100 + d) (ins (100 + d) _ _) = _
          rw [look_ins, if_pos rfl]
        · simp
        · simp
      · cases h
    · cases h
  · cases h

theorem replicate_getD {α : Type} (n i : Nat) (x d : α) (h : i < n) : (List.replicate n x).getD i d = x := by
  simp [List.getD_eq_getElem?_getD, h]

theorem zeroObj_ok {ie : TI} {n : Nat} {o : Obj} (h : zeroObj ie n = some o) (hf : zeroFits ie = true) : o.len = n ∧ o.sz = ie.zero.length ∧ ∀ i j v, i < n → ie.zero[j]? = some v → VRel M v (o.cell i j) := by
  unfold zeroObj at h
  unfold zeroFits at hf
  split at hf
  · rename_i k k' m h0 hz
    simp only [h0, C0.zeros, Option.map_some, Option.some.injEq] at h
    subst h
    simp only [Bool.and_eq_true, decide_eq_true_eq] at hf
    have hk : k = k' := of_decide_eq_true hf.1
    refine ⟨by simp [Obj.len, C0.len], by simp [hz, Obj.sz, C0.sz], fun i j v hi hj => ?_⟩
    rw [hz] at hj
    match j with
    | 0 =>
      simp at hj
      subst hj
      simp only [Obj.cell, C0.cell, replicate_getD _ _ _ _ hi, hk, hf.2]
      exact fun u hu => hu
    | j + 1 => simp at hj
  · rename_i b h0 hz
    simp only [h0, C0.zeros, Option.map_some, Option.some.injEq] at h
    subst h
    refine ⟨by simp [Obj.len, C0.len], by simp [hz, Obj.sz, C0.sz], fun i j v hi hj => ?_⟩
    rw [hz] at hj
    match j with
    | 0 =>
      simp at hj
      subst hj
      simp only [Obj.cell, C0.cell, replicate_getD _ _ _ _ hi]
      cases b
      · exact fun u hu => hu
      · cases hf
    | j + 1 => simp at hj
  · rename_i a b c h0 hz
    simp only [h0, C0.zeros, Option.map_some, Option.some.injEq] at h
    subst h
    simp only [Bool.and_eq_true, decide_eq_true_eq] at hf
    obtain ⟨⟨rfl, rfl⟩, rfl⟩ := hf
    refine ⟨by simp [Obj.len, C0.len], by simp [hz, Obj.sz, C0.sz], fun i j v hi hj => ?_⟩
    rw [hz] at hj
    match j with
    | 0 =>
      simp at hj
      subst hj
      simp only [Obj.cell, C0.cell, replicate_getD _ _ _ _ hi]
      exact fun u hu => hu
    | 1 =>
      simp at hj
      subst hj
      simp only [Obj.cell, C0.cell, replicate_getD _ _ _ _ hi]
      exact fun u hu => hu
    | 2 =>
      simp at hj
      subst hj
      simp only [Obj.cell, C0.cell, replicate_getD _ _ _ _ hi]
      exact fun u hu => hu
    | j + 3 => simp at hj
  · rename_i h0 h1 hz
    simp only [h0, h1, C1.zeros, Option.map_some, Option.some.injEq] at h
    subst h
    refine ⟨by simp [Obj.len, C1.len], by simp [hz, Obj.sz, C1.sz], fun i j v hi hj => ?_⟩
    rw [hz] at hj
    match j with
    | 0 =>
      simp at hj
      subst hj
      simp only [Obj.cell, C1.cell, replicate_getD _ _ _ _ hi]
      exact fun u hu => roSl_nil hu
    | j + 1 => simp at hj
  · rename_i h0 h1 hz
    simp only [h0, h1, C1.zeros, Option.map_some, Option.some.injEq] at h
    subst h
    refine ⟨by simp [Obj.len, C1.len], by simp [hz, Obj.sz, C1.sz], fun i j v hi hj => ?_⟩
    rw [hz] at hj
    match j with
    | 0 =>
      simp at hj
      subst hj
      simp only [Obj.cell, C1.cell, replicate_getD _ _ _ _ hi]
      exact fun u hu => roSl_nil hu
    | j + 1 => simp at hj
  · cases hf

theorem zero_len {t : TypeId} {i : TI} (h : TF P t i) : ∃ ti z, P.info? t = some ti ∧ ti.size = i.sz ∧ ti.bytes = i.bytes ∧ ti.zero = some z ∧ z.cells.size = i.zero.length ∧ CellsR M i.zero z.cells := by
  obtain ⟨ti, z, h1, h2, h3, h4, h5, h6⟩ := h.info
  refine ⟨ti, z, h1, h2, h3, h4, by rw [h5]; simp, ?_⟩
  rw [h5]
  simpa using CellsR_ofVal M z.cells.toList h6

theorem madeCells_at (z : Array Value) (n k : Nat) (h : k < n) : (madeCells z n)[k]? = some z[k % z.size]! := by
  simp [madeCells, h]

theorem stMake_sound {d : Nat} {t : TypeId} {a b : AV} {ua ub : Value} {r : MR} {o : Oper} {ρ : Operand → Value} {xl xc : Operand} (hT : ∀ t i, T t = some i → TF P t i) (hM : MOk M) (ho : o.op = .makeSlice t xl xc) (hxl : ρ xl = ua) (hxc : ρ xc = ub)
    (h : stMake T M.H d t a b = some r) (ha : AVR M a ua) (hb : AVR M b ub) (hc : AllP r.cs) : MSound P M ρ o r := by
  unfold stMake at h
  split at h
  · rename_i kl l kc c
    have e1 := VR_int ha
    have e2 := VR_int hb
    subst e1 e2
    split at h
    · rename_i elem _ _ _ _ _ hi
      have hu := kind_slice (hT _ _ hi) rfl
      split at h
      · rename_i ie hie
        have hF := hT _ _ hie
        split at h
        · rename_i ob hob
          cases hzf0 : (zeroFits ie && szFits ie)
          · rw [hzf0] at h; cases h
          · rw [hzf0] at h
            simp only [cond_true, Option.some.injEq] at h
            subst h
            simp only [Bool.and_eq_true] at hzf0
            obtain ⟨hzf, hszf⟩ := hzf0
            obtain ⟨h0, h1, h2, h3, _⟩ := hc
            obtain ⟨hlen, hsz, hcell⟩ := zeroObj_ok (M := M) hob hzf
            obtain ⟨ti, z, g1, g2, g3, g4, g5, g6⟩ := zero_len (M := M) hF
            have hr := run_make (P := P) M.w t elem ti z hu g1 g4 kl kc l c h0 h1 (by rw [g3]; exact h2) h3
            have hieq : ie.sz = ie.zero.length := Nat.eq_of_beq_eq_true hszf
            obtain ⟨hok, hext⟩ := alloc_bind hM (100 + d) ob (madeCells z.cells (c.toNat * ti.size)) elem M.w rfl rfl rfl rfl
              (by rw [size_madeCells, hlen, hsz, ← hieq, g2]; exact Nat.mul_le_mul_right _ (by omega)) (fun i hi j hj => by
                rw [hlen] at hi
                rw [hsz] at hj ⊢
                have hidx : i * ie.zero.length + j < c.toNat * ti.size := by
                  have h4 : (i + 1) * ie.zero.length ≤ c.toNat * ie.zero.length := Nat.mul_le_mul_right _ (by omega)
                  rw [Nat.add_mul, Nat.one_mul] at h4
                  rw [g2, hieq]; omega
                refine ⟨_, madeCells_at _ _ _ hidx, ?_⟩
                have hmod : (i * ie.zero.length + j) % z.cells.size = j := by rw [g5, Nat.mul_comm, Nat.mul_add_mod]; exact Nat.mod_eq_of_lt hj
                rw [hmod]
                obtain ⟨u, hu1, hu2⟩ := g6.2 j _ (List.getElem?_eq_getElem hj)
                have hue : z.cells[j]! = u := by
                  have hjz : j < z.cells.size := by omega
                  rw [getElem!_pos z.cells j hjz]
                  rw [Array.getElem?_eq_getElem hjz] at hu1
                  exact Option.some.inj hu1
                rw [hue]
                exact ⟨VR_oneCell hu2, hcell i j _ hi (List.getElem?_eq_getElem hj) u hu2⟩)
            refine ⟨.value (.slice (some ⟨M.w.heap.size, 0, none⟩) l.toNat c.toNat), _, ?_, rfl, hok, hext, _, rfl, clrO (Nat.beq (100 + d)) ob, ?_, ?_, ?_⟩
            · simp only [execOp, ho, hxl, hxc, Sem.run_bind, hr, Result.andThen_ok, Sem.run_pure]
            · show look (100 + d) (ins (100 + d) _ _) = _
              rw [look_ins, if_pos rfl]
            · rw [clrO_len, hlen]; omega
            · refine .inr ⟨M.w.heap.size, 0, 0, c.toNat, by simp, rfl, by omega, by simp only [maxLen]; omega, by omega, _, elem, heap_alloc_new _ _, ?_⟩
              rw [clrO_sz, size_madeCells, hsz, g2, hieq, Nat.zero_add, Nat.zero_add]
              exact Nat.le_refl _
        · cases h
      · cases h
    · cases h
  · cases h

end
end Go.Ab
