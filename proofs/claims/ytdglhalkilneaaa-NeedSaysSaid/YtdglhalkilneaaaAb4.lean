/- The abstract machine, part 4: one step that changes no memory, and that it is sound. -/
import Derived.Test.YtdglhalkilneaaaAb3
namespace Go.Ab

def partsCells (ev : Operand → Option AV) : List (Nat × Operand) → Option (List (Nat × List V1))
  | [] => some []
  | (i, x) :: r =>
    match ev x with
    | none => none
    | some v =>
      match v.cells with
      | none => none
      | some vs =>
        match partsCells ev r with
        | none => none
        | some ps => some ((i, vs) :: ps)

def eqCells : List V1 → List V1 → Option Bool
  | [.int .i64 a], [.int .i64 b] => some (decide (a = b))
  | .int .i64 a :: r, .int .i64 b :: r' => (eqCells r r').map (decide (a = b) && ·)
  | _, _ => none

def kEq (k k' : IntKind) : Bool := decide (k = k')

abbrev SR := Option (List Prop × AV)
def ret1 (v : V1) : SR := some ([], .one v)
def lift1 : Option (List Prop × V1) → SR
  | some (cs, v) => some (cs, .one v)
  | none => none

def stBin (T : Nat → Option TI) (op : BinOp) (t : TypeId) : AV → AV → SR
  | .one (.int k a), .one (.int k' b) =>
    (match op with
    | .shl => lift1 (intShift .shl k a b)
    | .shr => lift1 (intShift .shr k a b)
    | _ => cond (kEq k k') (lift1 (intBin op k a b)) none)
  | .one (.bool a), .one (.bool b) =>
    (match T t with
    | some { kind := .bool, .. } => (match op with | .eql => ret1 (.bool (a == b)) | .neq => ret1 (.bool (!(a == b))) | _ => none)
    | _ => none)
  | .one (.str a), .one (.str b) => (match op with | .eql => ret1 (.bool (a == b)) | .neq => ret1 (.bool (a != b)) | _ => none)
  | .agg vs, .agg us =>
    (match T t with
    | some i =>
      cond (i.eqs && Nat.beq vs.length i.fields.length) (match eqCells vs us with
        | some b => (match op with | .eql => ret1 (.bool b) | .neq => ret1 (.bool (!b)) | _ => none)
        | none => none) none
    | none => none)
  | _, _ => none

def stUn : UnOp → AV → SR
  | .not, .one (.bool b) => ret1 (.bool !b)
  | .neg, .one (.int k n) => some ([inR k (-n)], .one (.int k (-n)))
  | _, _ => none

def stConv (T : Nat → Option TI) (src dst : TypeId) : AV → SR
  | .one (.int _ n) =>
    (match T src, T dst with
    | some _, some { kind := .int k', .. } => some ([inR k' n], .one (.int k' n))
    | _, _ => none)
  | _ => none

def stField (T : Nat → Option TI) (t : TypeId) (f : Nat) : AV → SR
  | .agg vs =>
    (match T t with
    | some { kind := .struct, fields, .. } =>
      (match fields[f]? with
      | some (off, sz, true) => cond (Nat.ble (off + sz) vs.length && Nat.ble 1 sz) (some ([], .agg ((vs.drop off).take sz))) none
      | some (off, sz, false) => cond (Nat.ble 1 sz) (match vs[off]? with | some v => ret1 v | none => none) none
      | none => none)
    | _ => none)
  | _ => none

def stFieldAddr (T : Nat → Option TI) (t : TypeId) (f : Nat) : AV → SR
  | .one v =>
    (match T t with
    | some { kind := .struct, fields, .. } =>
      (match fields[f]? with
      | some (off, sz, _) =>
        cond (Nat.ble 1 sz)
          (match v with
          | .ptr id i j => ret1 (.ptr id i (j + off))
          | .rp c i j => cond (Nat.ble (j + off + 1) c.sz) (ret1 (.rp c i (j + off))) none
          | .rq c i j => cond (Nat.ble (j + off + 1) c.sz) (ret1 (.rq c i (j + off))) none
          | _ => none) none
      | none => none)
    | _ => none)
  | _ => none

def stIndexAddr (T : Nat → Option TI) (H : Heap) (t : TypeId) : AV → AV → SR
  | .one v, .one (.int _ n) =>
    (match T t with
    | some { kind := .slice, elem, .. } =>
      (match T elem with
      | some ie =>
        (match v with
        | .rw id off len =>
          (match look id H with
          | some o => cond (Nat.beq ie.sz o.sz && Nat.ble 1 ie.sz) (some ([0 ≤ n, n < (len : Int)], .one (.ptr id (nadd off n.toNat) 0))) none
          | none => none)
        | .ro c => cond (Nat.beq ie.sz c.sz) (some ([0 ≤ n, n < (c.len : Int)], .one (.rp c n.toNat 0))) none
        | .rs c => cond (Nat.beq ie.sz c.sz) (some ([0 ≤ n, n < (c.len : Int)], .one (.rq c n.toNat 0))) none
        | _ => none)
      | none => none)
    | some { kind := .array len, elem, .. } =>
      (match T elem with
      | some ie =>
        (match v with
        | .ptr id i j =>
          (match look id H with
          | some o =>
            cond (Nat.beq ie.sz o.sz) (some ([0 ≤ n, n < (len : Int)], .one (.ptr id (nadd i n.toNat) j)))
              (cond (Nat.beq o.sz 1) (some ([0 ≤ n, n < (len : Int)], .one (.ptr id (nadd i (n.toNat * ie.sz)) j)))
                (some ([0 ≤ n, n < (len : Int)], .one (.ptr id i (nadd j (n.toNat * ie.sz))))))
          | none => none)
        | _ => none)
      | none => none)
    | _ => none)
  | _, _ => none

/-- Numbers of one kind. -/
def intsIn : List V1 → Option (IntKind × List Int)
  | [] => none
  | .int k x :: r =>
    (match r with
    | [] => some (k, [x])
    | _ :: _ => (match intsIn r with | some (k', l) => cond (kEq k k') (some (k, x :: l)) none | none => none))
  | _ => none
theorem intsIn_at : ∀ {vs : List V1} {k : IntKind} {l : List Int}, intsIn vs = some (k, l) → ∀ i, i < vs.length → vs[i]? = some (.int k (l.getD i 0))
  | [], _, _, h => by cases h
  | .int k x :: [], k', l, h => by
    simp only [intsIn, Option.some.injEq, Prod.mk.injEq] at h
    obtain ⟨rfl, rfl⟩ := h
    intro i hi
    simp only [List.length_cons, List.length_nil] at hi
    obtain rfl : i = 0 := by omega
    rfl
  | .int k x :: y :: r, k', l, h => by
    unfold intsIn at h
    split at h
    · rename_i h0; cases h0
    · split at h
      · rename_i k2 l2 h2
        cases hk : kEq k k2
        · rw [hk] at h; cases h
        · rw [hk] at h
          simp only [cond_true, Option.some.injEq, Prod.mk.injEq] at h
          obtain ⟨rfl, rfl⟩ := h
          have hkk : k = k2 := of_decide_eq_true hk
          subst hkk
          intro i hi
          cases i with
          | zero => rfl
          | succ i =>
            have := intsIn_at h2 i (by simpa using hi)
            simpa using this
      · cases h
  | .any :: _, _, _, h => by cases h
  | .bool _ :: _, _, _, h => by cases h
  | .str _ :: _, _, _, h => by cases h
  | .nilp :: _, _, _, h => by cases h
  | .nilf :: _, _, _, h => by cases h
  | .nils :: _, _, _, h => by cases h
  | .ptr _ _ _ :: _, _, _, h => by cases h
  | .rw _ _ _ :: _, _, _, h => by cases h
  | .ro _ :: _, _, _, h => by cases h
  | .rs _ :: _, _, _, h => by cases h
  | .rp _ _ _ :: _, _, _, h => by cases h
  | .rq _ _ _ :: _, _, _, h => by cases h
  | .fn _ _ :: _, _, _, h => by cases h
def stIndex (T : Nat → Option TI) (t : TypeId) : AV → AV → SR
  | .agg vs, .one (.int _ n) =>
    (match T t with
    | some { kind := .array len, elem, .. } =>
      (match T elem with
      | some ie => cond ie.kind.agg none (cond (Nat.beq ie.sz 1) (match intsIn vs with
        | some (k, l) => some ([0 ≤ n, n < (len : Int), n < (vs.length : Int)], .one (.int k (l.getD n.toNat 0)))
        | none => (match vs[n.toNat]? with | some v => some ([0 ≤ n, n < (len : Int)], .one v) | none => none)) none)
      | none => none)
    | _ => none)
  | _, _ => none

def bnd (ev : Operand → Option AV) (d : Int) : Option Operand → Option Int
  | none => some d
  | some x => (match ev x with | some (.one (.int _ n)) => some n | _ => none)

def sliceRes (v : V1) (_len : Nat) (l h : Int) : Option V1 :=
  match v with
  | .rw id off _ => some (.rw id (nadd off l.toNat) (h.toNat - l.toNat))
  | .ro c => some (.ro (c.sub l.toNat h.toNat))
  | .rs c => some (.rs (c.sub l.toNat h.toNat))
  | .nils => some .nils
  | _ => none
def sliceLen : V1 → Option Nat
  | .rw _ _ len => some len
  | .ro c => some c.len
  | .rs c => some c.len
  | .nils => some 0
  | _ => none

def sliceBnds (len : Nat) (l h : Int) : Option Int → List Prop
  | none => [0 ≤ l, l ≤ h, h ≤ (len : Int)]
  | some m => [0 ≤ l, l ≤ h, h ≤ m, m ≤ (len : Int)]

def sliceSz (H : Heap) (e : Nat) : V1 → Bool
  | .rw id _ _ => (match look id H with | some o => Nat.beq e o.sz | none => false)
  | .ro c => Nat.beq e c.sz
  | .rs c => Nat.beq e c.sz
  | .nils => true
  | _ => false

def stSlice (T : Nat → Option TI) (H : Heap) (ev : Operand → Option AV) (t : TypeId) (lo hi mx : Option Operand) : AV → SR
  | .one v =>
    (match T t with
    | some { kind := .slice, elem, .. } =>
      (match T elem, sliceLen v with
      | some ie, some len =>
        (match bnd ev 0 lo, bnd ev len hi with
        | some l, some h =>
          (match sliceRes v len l h with
          | some r =>
            cond (sliceSz H ie.sz v)
              (match mx with
              | none => some (sliceBnds len l h none, .one r)
              | some x => (match hi, ev x with | some _, some (.one (.int _ m)) => some (sliceBnds len l h (some m), .one r) | _, _ => none)) none
          | none => none)
        | _, _ => none)
      | _, _ => none)
    | some { kind := .array n, elem, .. } =>
      (match T elem, v, lo, hi, mx with
      | some ie, .ptr id i 0, none, none, none =>
        (match look id H with
        | some o => cond (Nat.beq ie.sz o.sz) (some ([i + n ≤ o.len, n ≤ maxLen], .one (.rw id i n))) none
        | none => none)
      | _, _, _, _, _ => none)
    | _ => none)
  | _ => none

def stExtract (i : Nat) : AV → SR
  | .tup es =>
    (match es[i]? with
    | some (true, vs) => some ([], .agg vs)
    | some (false, [v]) => ret1 v
    | _ => none)
  | _ => none

def stNil : AV → SR
  | .one (.ptr id i j) => ret1 (.ptr id i j)
  | .one (.rp c i j) => ret1 (.rp c i j)
  | .one (.rq c i j) => ret1 (.rq c i j)
  | .one (.fn f cs) => ret1 (.fn f cs)
  | _ => none

def capsOf (ev : Operand → Option AV) : List Operand → Option (List V1)
  | [] => some []
  | x :: r =>
    match ev x with
    | some (.one v) => cond (noFn v) (match capsOf ev r with | some vs => some (v :: vs) | none => none) none
    | _ => none

def stMakeFunc (ev : Operand → Option AV) (fn : Fn) (first : List Operand) (caps : List Operand) : SR :=
  match fn, first with
  | .func f, [] => (match capsOf ev caps with | some vs => ret1 (.fn f vs) | none => none)
  | _, _ => none

def foldMin : List AV → Int → Option Int
  | [] => fun a => some a
  | x :: r => fun a => (match x with | .one (.int _ b) => foldMin r (min a b) | _ => none)
def foldMax : List AV → Int → Option Int
  | [] => fun a => some a
  | x :: r => fun a => (match x with | .one (.int _ b) => foldMax r (max a b) | _ => none)
def evs (ev : Operand → Option AV) : List Operand → Option (List AV)
  | [] => some []
  | x :: r => (match ev x, evs ev r with | some v, some vs => some (v :: vs) | _, _ => none)

def stLen (T : Nat → Option TI) (t : TypeId) : AV → SR
  | .one v =>
    (match T t with
    | some { kind := .slice, .. } => (match sliceLen v with | some n => ret1 (.int .i64 (n : Int)) | none => none)
    | some { kind := .array n, .. } => ret1 (.int .i64 (n : Int))
    | some { kind := .string, .. } => (match v with | .str s => ret1 (.int .i64 (s.size : Int)) | _ => none)
    | _ => none)
  | _ => none

def stBuiltin (T : Nat → Option TI) (ev : Operand → Option AV) (b : Builtin) (args : List Operand) (types : List TypeId) : SR :=
  match b, evs ev args, types with
  | .len, some [v], [t] => stLen T t v
  | .cap, some [.one .nils], [t] => (match T t with | some { kind := .slice, .. } => ret1 (.int .i64 0) | _ => none)
  | .min, some (.one (.int k a) :: r), _ => (match foldMin r a with | some n => ret1 (.int k n) | none => none)
  | .max, some (.one (.int k a) :: r), _ => (match foldMax r a with | some n => ret1 (.int k n) | none => none)
  | _, _, _ => none

def stBuild (T : Nat → Option TI) (ev : Operand → Option AV) (t : TypeId) (parts : List (Nat × Operand)) : SR :=
  match T t, partsCells ev parts with
  | some { kind := .struct, fields, zero, .. }, some ps =>
    cond (fields.all fun f => Nat.ble 1 f.2.1) (match fillA (fun i => (fields.map fun f => (f.1, f.2.1))[i]?) zero ps with
    | some cs => some ([], .agg cs)
    | none => none) none
  | some { kind := .array _, elem, zero, .. }, some ps =>
    (match T elem with
    | some ie =>
      (match fillA (fun i => some (i * ie.sz, ie.sz)) zero ps with
      | some cs => some ([], .agg cs)
      | none => none)
    | none => none)
  | _, _ => none

/-- One step that changes no memory: what it owes, and its value. -/
def stepPure (T : Nat → Option TI) (H : Heap) (ev : Operand → Option AV) : Op → SR
  | .move x => (ev x).map fun v => ([], v)
  | .assign x => (ev x).map fun v => ([], v)
  | .binOp op t x y _ => (match ev x, ev y with | some a, some b => stBin T op t a b | _, _ => none)
  | .unOp op _ x => (match ev x with | some a => stUn op a | none => none)
  | .convert src dst x => (match ev x with | some a => stConv T src dst a | none => none)
  | .field t x f => (match ev x with | some a => stField T t f a | none => none)
  | .fieldAddr t x f => (match ev x with | some a => stFieldAddr T t f a | none => none)
  | .indexAddr t x i => (match ev x, ev i with | some a, some n => stIndexAddr T H t a n | _, _ => none)
  | .index t x i => (match ev x, ev i with | some a, some n => stIndex T t a n | _, _ => none)
  | .slice t x lo hi mx => (match ev x with | some a => stSlice T H ev t lo hi mx a | none => none)
  | .extract x i => (match ev x with | some a => stExtract i a | none => none)
  | .nilCheck x => (match ev x with | some a => stNil a | none => none)
  | .makeFunc fn first caps => stMakeFunc ev fn first.toList caps.toList
  | .call c => (match c.callee with | .builtin b => stBuiltin T ev b c.args.toList c.argTypes.toList | _ => none)
  | .build t parts => stBuild T ev t parts.toList
  | _ => none

/-! ### Soundness, one form after the other -/
section
variable {P : Program} {T : Nat → Option TI} {M : Mem}

theorem lift1_some {r : Option (List Prop × V1)} {cs : List Prop} {v : AV} (h : lift1 r = some (cs, v)) : ∃ v1, r = some (cs, v1) ∧ v = .one v1 := by
  cases r with
  | none => cases h
  | some p =>
    obtain ⟨a, b⟩ := p
    simp only [lift1, Option.some.injEq, Prod.mk.injEq] at h
    obtain ⟨rfl, rfl⟩ := h
    exact ⟨b, rfl, rfl⟩

theorem VR_int {k : IntKind} {n : Int} {u : Value} (h : AVR M (.one (.int k n)) u) : u = .int k n := h
theorem VR_bool {b : Bool} {u : Value} (h : AVR M (.one (.bool b)) u) : u = .bool b := h
theorem VR_str {s : ByteArray} {u : Value} (h : AVR M (.one (.str s)) u) : u = .string s := h

theorem kind_slice {t : TypeId} {i : TI} (h : TF P t i) (hk : i.kind = .slice) : P.underlying t = some (.slice i.elem) := by
  have := h.kind
  rw [hk] at this
  cases hu : P.underlying t with
  | none => rw [hu] at this; simp [kindOk] at this
  | some d =>
    rw [hu] at this
    cases d <;> simp [kindOk] at this
    rw [this]
theorem kind_array {t : TypeId} {i : TI} {n : Nat} (h : TF P t i) (hk : i.kind = .array n) : P.underlying t = some (.array n i.elem) := by
  have := h.kind
  rw [hk] at this
  cases hu : P.underlying t with
  | none => rw [hu] at this; simp [kindOk] at this
  | some d =>
    rw [hu] at this
    cases d <;> simp [kindOk] at this
    rw [this.1, this.2]
theorem kind_struct {t : TypeId} {i : TI} (h : TF P t i) (hk : i.kind = .struct) : ∃ fs, P.underlying t = some (.struct fs) ∧
    i.fields = fs.toList.map fun f => (f.offset, if (P.underlying f.type).isSome then P.cellsOf f.type else 0, aggB P f.type) := by
  have := h.kind
  rw [hk] at this
  cases hu : P.underlying t with
  | none => rw [hu] at this; simp [kindOk] at this
  | some d =>
    rw [hu] at this
    cases d <;> simp [kindOk] at this
    rename_i fs
    refine ⟨fs, rfl, ?_⟩
    rw [← h.fields]
    simp [fieldsOf, hu]
theorem kind_int {t : TypeId} {i : TI} {k : IntKind} (h : TF P t i) (hk : i.kind = .int k) : P.underlying t = some (.int k) := by
  have := h.kind
  rw [hk] at this
  cases hu : P.underlying t with
  | none => rw [hu] at this; simp [kindOk] at this
  | some d =>
    rw [hu] at this
    cases d <;> simp [kindOk] at this
    rw [this]
theorem kind_bool {t : TypeId} {i : TI} (h : TF P t i) (hk : i.kind = .bool) : P.underlying t = some .bool := by
  have := h.kind
  rw [hk] at this
  cases hu : P.underlying t with
  | none => rw [hu] at this; simp [kindOk] at this
  | some d =>
    rw [hu] at this
    cases d <;> simp [kindOk] at this
    rfl
theorem kind_string {t : TypeId} {i : TI} (h : TF P t i) (hk : i.kind = .string) : P.underlying t = some .string := by
  have := h.kind
  rw [hk] at this
  cases hu : P.underlying t with
  | none => rw [hu] at this; simp [kindOk] at this
  | some d =>
    rw [hu] at this
    cases d <;> simp [kindOk] at this
    rfl
theorem kind_any {t : TypeId} {i : TI} (h : TF P t i) : ∃ d, P.underlying t = some d := by
  have := h.kind
  cases hu : P.underlying t with
  | none => rw [hu] at this; cases hk : i.kind <;> rw [hk] at this <;> simp [kindOk] at this
  | some d => exact ⟨d, rfl⟩
theorem sizeOf_run {t : TypeId} {i : TI} (h : TF P t i) (w : World) : (sizeOf t).run P w = .ok i.sz w := by
  obtain ⟨ti, z, hi, hs, _⟩ := h.info
  simp [sizeOf, typeInfo, hi, hs]

/-- A field of a struct, one that takes cells. -/
theorem field_at {fs : Array Field} {fields : List (Nat × Nat × Bool)} {f off sz : Nat} {b : Bool}
    (he : fields = fs.toList.map fun f => (f.offset, if (P.underlying f.type).isSome then P.cellsOf f.type else 0, aggB P f.type)) (h : fields[f]? = some (off, sz, b)) (hsz : 1 ≤ sz) :
    ∃ fd, fs[f]? = some fd ∧ fd.offset = off ∧ aggB P fd.type = b ∧ (P.underlying fd.type).isSome = true ∧ ∃ ti, P.info? fd.type = some ti ∧ ti.size = sz := by
  rw [he, List.getElem?_map, Option.map_eq_some_iff] at h
  obtain ⟨fd, hfd, h⟩ := h
  simp only [Prod.mk.injEq] at h
  obtain ⟨h1, h2, h3⟩ := h
  by_cases hu : (P.underlying fd.type).isSome = true
  · rw [if_pos hu] at h2
    refine ⟨fd, by simpa using hfd, h1, h3, hu, ?_⟩
    unfold Program.cellsOf at h2
    cases hi : P.info? fd.type with
    | none => rw [hi] at h2; simp at h2; omega
    | some ti => rw [hi] at h2; exact ⟨ti, rfl, by simpa using h2⟩
  · rw [if_neg hu] at h2; omega

theorem eqFields_sound {w : World} : ∀ {fs : List Field} {k : Nat} {vs us : List V1} {xs ys : Array Value} {b : Bool} (d : Nat),
    (fs.zipIdx k).all (fun p => p.1.name != "_" && Nat.beq p.1.offset p.2 && (match P.underlying p.1.type with | some (.int _) => true | _ => false)) = true →
    vs.length = fs.length → eqCells vs us = some b →
    (∀ (i : Nat) (v : V1), vs[i]? = some v → ∃ u, xs[k + i]? = some u ∧ VR M v u) → (∀ (i : Nat) (v : V1), us[i]? = some v → ∃ u, ys[k + i]? = some u ∧ VR M v u) →
    (Op.eqFields (d + 1) xs ys fs).run P w = .ok b w
  | [], k, vs, us, xs, ys, b, d, _, hl, he, _, _ => by
    have : vs = [] := List.eq_nil_of_length_eq_zero (by simpa using hl)
    subst this
    cases us <;> cases he
  | f :: fs, k, vs, us, xs, ys, b, d, hf, hl, he, hx, hy => by
    simp only [List.zipIdx_cons, List.all_cons, Bool.and_eq_true] at hf
    obtain ⟨⟨⟨hn, ho⟩, hi⟩, hrest⟩ := hf
    have ho' : f.offset = k := Nat.eq_of_beq_eq_true ho
    have hn' : f.name ≠ "_" := by simpa using hn
    have step : ∀ (a a' : Int) (vr ur : List V1), vs = .int .i64 a :: vr → us = .int .i64 a' :: ur →
        (Op.eqFields (d + 1) xs ys (f :: fs)).run P w = if a = a' then (Op.eqFields (d + 1) xs ys fs).run P w else .ok false w := by
      intro a a' vr ur hv hu
      subst hv hu
      obtain ⟨x, hx0, hxv⟩ := hx 0 _ rfl
      obtain ⟨y, hy0, hyv⟩ := hy 0 _ rfl
      simp only [Nat.add_zero] at hx0 hy0
      have hxv' : x = .int .i64 a := hxv
      have hyv' : y = .int .i64 a' := hyv
      subst hxv' hyv'
      have hk : ∃ kk, P.underlying f.type = some (.int kk) := by
        cases hu : P.underlying f.type with
        | none => rw [hu] at hi; cases hi
        | some dd => cases dd <;> rw [hu] at hi <;> first | (cases hi; done) | exact ⟨_, rfl⟩
      obtain ⟨kk, hk⟩ := hk
      have hagg : aggB P f.type = false := by simp [aggB, hk]
      have hpx : (part f.type xs f.offset).run P w = .ok (.int .i64 a) w := by
        simp [part, aggB_run (P := P) (t := f.type) (by rw [hk]; rfl), hagg, ho', hx0]
      have hpy : (part f.type ys f.offset).run P w = .ok (.int .i64 a') w := by
        simp [part, aggB_run (P := P) (t := f.type) (by rw [hk]; rfl), hagg, ho', hy0]
      simp only [Op.eqFields, if_pos hn', Sem.run_bind, hpx, Result.andThen_ok, hpy]
      rw [show (Op.equalIn (d + 1) f.type (.int .i64 a) (.int .i64 a')).run P w = .ok (a == a') w from by simp [Op.equalIn, run_underlying hk]]
      by_cases haa : a = a' <;> simp [haa]
    unfold eqCells at he
    split at he
    · rename_i a a' 
      simp only [Option.some.injEq] at he
      have hfs : fs = [] := List.eq_nil_of_length_eq_zero (by simpa using hl.symm)
      subst hfs
      rw [step _ _ [] [] rfl rfl, ← he]
      by_cases h : a = a' <;> simp [h, Op.eqFields]
    · rename_i a vr a' ur _
      simp only [Option.map_eq_some_iff] at he
      obtain ⟨b', hb', rfl⟩ := he
      rw [step _ _ vr ur rfl rfl]
      by_cases h : a = a'
      · rw [if_pos h, eqFields_sound d hrest (by simpa using hl) hb' (fun i v hi => by
          obtain ⟨u, hu, hv⟩ := hx (i + 1) v (by simpa using hi)
          exact ⟨u, by rw [← hu]; congr 1; omega, hv⟩) (fun i v hi => by
          obtain ⟨u, hu, hv⟩ := hy (i + 1) v (by simpa using hi)
          exact ⟨u, by rw [← hu]; congr 1; omega, hv⟩)]
        simp [h]
      · rw [if_neg h]; simp [h]
    · cases he

theorem stBin_sound {op : BinOp} {t : TypeId} {x y : Operand} {a b v : AV} {ua ub : Value} {cs : List Prop} (hT : ∀ t i, T t = some i → TF P t i) (h : stBin T op t a b = some (cs, v))
    (ha : AVR M a ua) (hb : AVR M b ub) (hc : AllP cs) (w : World) : ∃ u, (do eqGuard op t x y ua ub; binOp op t ua ub : Sem Value).run P w = .ok u w ∧ AVR M v u := by
  unfold stBin at h
  split at h
  · rename_i k n k' n'
    have e1 := VR_int ha
    have e2 := VR_int hb
    subst e1 e2
    rw [eqGuard_at_int]
    split at h
    · obtain ⟨v1, h', rfl⟩ := lift1_some h
      obtain ⟨u, hu, hv⟩ := intShift_sound (P := P) (M := M) (t := t) (k' := k') h' hc w
      exact ⟨u, by simpa using hu, hv⟩
    · obtain ⟨v1, h', rfl⟩ := lift1_some h
      obtain ⟨u, hu, hv⟩ := intShift_sound (P := P) (M := M) (t := t) (k' := k') h' hc w
      exact ⟨u, by simpa using hu, hv⟩
    · cases hk : kEq k k'
      · rw [hk] at h; cases h
      · rw [hk] at h
        have hkk : k = k' := of_decide_eq_true hk
        subst hkk
        obtain ⟨v1, h', rfl⟩ := lift1_some h
        obtain ⟨u, hu, hv⟩ := intBin_sound (P := P) (M := M) (t := t) h' hc w
        exact ⟨u, by simpa using hu, hv⟩
  · rename_i p q
    have e1 := VR_bool ha
    have e2 := VR_bool hb
    subst e1 e2
    rw [eqGuard_at_bool]
    split at h
    · rename_i i hi
      have ht := kind_bool (hT _ _ hi) rfl
      split at h <;> (try simp only [ret1, Option.some.injEq, Prod.mk.injEq] at h) <;> first | (obtain ⟨rfl, rfl⟩ := h) | cases h
      · exact ⟨_, by simpa using run_eql_bool (P := P) w t p q ht, rfl⟩
      · exact ⟨_, by simpa using run_neq_bool (P := P) w t p q ht, rfl⟩
    · cases h
  · rename_i p q
    have e1 := VR_str ha
    have e2 := VR_str hb
    subst e1 e2
    rw [eqGuard_at_string]
    split at h <;> (try simp only [ret1, Option.some.injEq, Prod.mk.injEq] at h) <;> first | (obtain ⟨rfl, rfl⟩ := h) | cases h
    · exact ⟨.bool (p == q), by simp [binOp, Op.stringOp, beq_toListBytes], rfl⟩
    · exact ⟨.bool (p != q), by simp [binOp, Op.stringOp, bne, beq_toListBytes], rfl⟩
  · rename_i vs us
    obtain ⟨xs, rfl, hx⟩ := ha
    obtain ⟨ys, rfl, hy⟩ := hb
    split at h
    · rename_i i hi
      cases hq : (i.eqs && Nat.beq vs.length i.fields.length)
      · rw [hq] at h; cases h
      · rw [hq] at h
        simp only [Bool.and_eq_true] at hq
        simp only [cond_true] at h
        split at h
        · rename_i bb hbb
          have hF := hT _ _ hi
          obtain ⟨hf1, hf2, hf3⟩ := hF.eqs hq.1
          have hfl := hF.fields
          unfold intFields at hf1
          cases hu : P.underlying t with
          | none => rw [hu] at hf1; cases hf1
          | some d =>
            rw [hu] at hf1
            cases d <;> simp only at hf1 <;> first | (cases hf1; done) | skip
            rename_i fs
            have hfo : P.fieldsOf t = fs := by simp [Program.fieldsOf, hu]
            have hlen : vs.length = fs.toList.length := by
              rw [Nat.eq_of_beq_eq_true hq.2, ← hfl]
              simp [fieldsOf, hu]
            have hrun : (Op.equalIn 10000 t (.agg xs) (.agg ys)).run P w = .ok bb w := by
              rw [run_equalIn_struct (P := P) w 9999 t xs ys (by rw [hfo]; exact hu) hf2, hfo]
              exact eqFields_sound (M := M) 9998 hf1 hlen hbb (fun i v hi => by simpa using hx.2 i v hi) (fun i v hi => by simpa using hy.2 i v hi)
            split at h <;> (try simp only [ret1, Option.some.injEq, Prod.mk.injEq] at h) <;> first | (obtain ⟨rfl, rfl⟩ := h) | cases h
            · exact ⟨.bool bb, by rw [Sem.run_bind, run_eqGuard_agg w _ t x y xs ys hf3]; simp only [Result.andThen_ok]; rw [run_eql_struct, hrun]; rfl, rfl⟩
            · exact ⟨.bool (!bb), by rw [Sem.run_bind, run_eqGuard_agg w _ t x y xs ys hf3]; simp only [Result.andThen_ok]; rw [run_neq_struct, hrun]; rfl, rfl⟩
        · cases h
    · cases h
  · cases h

theorem stUn_sound {op : UnOp} {a v : AV} {ua : Value} {cs : List Prop} (h : stUn op a = some (cs, v)) (ha : AVR M a ua) (hc : AllP cs) (w : World) :
    ∃ u, (Op.unary op ua).run P w = .ok u w ∧ AVR M v u := by
  unfold stUn at h
  split at h
  · rename_i b
    have e := VR_bool ha
    subst e
    simp only [ret1, Option.some.injEq, Prod.mk.injEq] at h
    obtain ⟨rfl, rfl⟩ := h
    exact ⟨_, rfl, rfl⟩
  · rename_i k n
    have e := VR_int ha
    subst e
    simp only [Option.some.injEq, Prod.mk.injEq] at h
    obtain ⟨rfl, rfl⟩ := h
    exact ⟨_, by rw [unary_neg]; rfl, congrArg (Value.int k) (by rw [Int.zero_sub]; exact wrap_in hc.1)⟩
  · cases h

theorem stConv_sound {src dst : TypeId} {a v : AV} {ua : Value} {cs : List Prop} (hT : ∀ t i, T t = some i → TF P t i) (h : stConv T src dst a = some (cs, v)) (ha : AVR M a ua) (hc : AllP cs) (w : World) :
    ∃ u, (convert src dst ua).run P w = .ok u w ∧ AVR M v u := by
  unfold stConv at h
  split at h
  · rename_i k n
    have e := VR_int ha
    subst e
    split at h
    · rename_i i1 j1 i2 k' h1 h2
      simp only [Option.some.injEq, Prod.mk.injEq] at h
      obtain ⟨rfl, rfl⟩ := h
      obtain ⟨d, hd⟩ := kind_any (hT _ _ ‹T src = _›)
      have hk := kind_int (hT _ _ ‹T dst = _›) rfl
      exact ⟨.int _ n, by simp [convert, run_underlying hd, run_underlying hk, Conv.intToInt, wrap_in hc.1], rfl⟩
    · cases h
  · cases h

theorem stField_sound {t : TypeId} {f : Nat} {a v : AV} {ua : Value} {cs : List Prop} (hT : ∀ t i, T t = some i → TF P t i) (h : stField T t f a = some (cs, v)) (ha : AVR M a ua) (w : World) :
    ∃ u, (Instr.field t ua f).run P w = .ok u w ∧ AVR M v u := by
  unfold stField at h
  split at h
  · rename_i vs
    obtain ⟨xs, rfl, hx⟩ := ha
    split at h
    · rename_i fields _ _ _ hi
      obtain ⟨fs, hu, hfl⟩ := kind_struct (hT _ _ hi) rfl
      split at h
      · rename_i off sz hf
        cases hb : (Nat.ble (off + sz) vs.length && Nat.ble 1 sz)
        · rw [hb] at h; cases h
        · rw [hb] at h
          simp only [Bool.and_eq_true] at hb
          have hb1 := Nat.le_of_ble_eq_true hb.1
          have hb2 := Nat.le_of_ble_eq_true hb.2
          simp only [cond_true, Option.some.injEq, Prod.mk.injEq] at h
          obtain ⟨rfl, rfl⟩ := h
          obtain ⟨fd, hfd, ho, hag, hus, ti, hti, hsz⟩ := field_at hfl hf hb2
          refine ⟨.agg (xs.extract off (off + sz)), by simp [Instr.field, run_underlying hu, hfd, asAgg, part, aggB_run hus, hag, sizeOf, typeInfo, hti, hsz, ho], _, rfl, ?_, fun i v hi => ?_⟩
          · have := hx.1
            simp; omega
          · rw [List.getElem?_take] at hi
            split at hi
            · rename_i hlt
              rw [List.getElem?_drop] at hi
              obtain ⟨u, hu', hv⟩ := hx.2 _ v hi
              exact ⟨u, by rw [Array.getElem?_extract]; have := hx.1; rw [if_pos (by omega)]; exact hu', hv⟩
            · cases hi
      · rename_i off sz hf
        cases hb : Nat.ble 1 sz
        · rw [hb] at h; cases h
        · rw [hb] at h
          have hb2 := Nat.le_of_ble_eq_true hb
          simp only [cond_true] at h
          obtain ⟨fd, hfd, ho, hag, hus, ti, hti, hsz⟩ := field_at hfl hf hb2
          split at h
          · rename_i v1 hv1
            simp only [ret1, Option.some.injEq, Prod.mk.injEq] at h
            obtain ⟨rfl, rfl⟩ := h
            obtain ⟨u, hu', hv⟩ := hx.2 _ _ hv1
            exact ⟨u, by simp [Instr.field, run_underlying hu, hfd, asAgg, part, aggB_run hus, hag, ho, hu'], hv⟩
          · cases h
      · cases h
    · cases h
  · cases h

theorem ptr_add {b x n : Nat} : (⟨b, x, none⟩ : Addr).add n = ⟨b, x + n, none⟩ := Addr.add_lit b x n

theorem stFieldAddr_sound {t : TypeId} {f : Nat} {a v : AV} {ua : Value} {cs : List Prop} (hT : ∀ t i, T t = some i → TF P t i) (h : stFieldAddr T t f a = some (cs, v)) (ha : AVR M a ua) :
    ∃ u, (∀ w, (Instr.fieldAt t ua f).run P w = .ok u w) ∧ AVR M v u := by
  unfold stFieldAddr at h
  split at h
  · rename_i v0
    split at h
    · rename_i fields _ _ _ hi
      obtain ⟨fs, hu, hfl⟩ := kind_struct (hT _ _ hi) rfl
      split at h
      · rename_i off sz ag hf
        cases hb : Nat.ble 1 sz
        · rw [hb] at h; cases h
        · rw [hb] at h
          have hb2 := Nat.le_of_ble_eq_true hb
          simp only [cond_true] at h
          obtain ⟨fd, hfd, ho, hag, hus, ti, hti, hsz⟩ := field_at hfl hf hb2
          have key : ∀ (b x : Nat) (w : World), (Instr.fieldAt t (.pointer (some ⟨b, x, none⟩)) f).run P w = .ok (.pointer (some ⟨b, x + off, none⟩)) w := by
            intro b x w
            simp [Instr.fieldAt, run_underlying hu, hfd, Instr.sureAddr, fieldPlace, sizeOf, typeInfo, hti, hsz, show ¬ sz = 0 from by omega, ho, ptr_add]
          split at h
          · rename_i id i j
            simp only [ret1, Option.some.injEq, Prod.mk.injEq] at h
            obtain ⟨rfl, rfl⟩ := h
            obtain ⟨o, b, p, hl, hm, rfl⟩ := ha
            exact ⟨_, key _ _, o, b, p, hl, hm, by rw [Nat.add_assoc, Nat.add_assoc]⟩
          · rename_i c i j
            cases hc : Nat.ble (j + off + 1) c.sz
            · rw [hc] at h; cases h
            · rw [hc] at h
              have := Nat.le_of_ble_eq_true hc
              simp only [cond_true, ret1, Option.some.injEq, Prod.mk.injEq] at h
              obtain ⟨rfl, rfl⟩ := h
              obtain ⟨h1, h2, b, p, rfl, hr⟩ := ha
              exact ⟨_, key _ _, h1, by omega, b, p, by rw [Nat.add_assoc, Nat.add_assoc], hr⟩
          · rename_i c i j
            cases hc : Nat.ble (j + off + 1) c.sz
            · rw [hc] at h; cases h
            · rw [hc] at h
              have := Nat.le_of_ble_eq_true hc
              simp only [cond_true, ret1, Option.some.injEq, Prod.mk.injEq] at h
              obtain ⟨rfl, rfl⟩ := h
              obtain ⟨h1, h2, b, p, rfl, hr⟩ := ha
              exact ⟨_, key _ _, h1, by omega, b, p, by rw [Nat.add_assoc, Nat.add_assoc], hr⟩
          · cases h
      · cases h
    · cases h
  · cases h

theorem indexAt_slice {t : TypeId} {elem : TypeId} {ie : TI} (hu : P.underlying t = some (.slice elem)) (he : TF P elem ie) (b x len cap : Nat) (k : IntKind) (n : Int) (h0 : 0 ≤ n) (h1 : n < (len : Int)) (w : World) :
    (Instr.indexAt t (.slice (some ⟨b, x, none⟩) len cap) (.int k n)).run P w = .ok (.pointer (some ⟨b, x + n.toNat * ie.sz, none⟩)) w := by
  simp [Instr.indexAt, asIntOf, run_underlying hu, sizeOf_run he, h0, h1, ptr_add]

theorem indexAt_array {t : TypeId} {elem : TypeId} {ie : TI} {len : Nat} (hu : P.underlying t = some (.array len elem)) (he : TF P elem ie) (b x : Nat) (k : IntKind) (n : Int) (h0 : 0 ≤ n) (h1 : n < (len : Int)) (w : World) :
    (Instr.indexAt t (.pointer (some ⟨b, x, none⟩)) (.int k n)).run P w = .ok (.pointer (some ⟨b, x + n.toNat * ie.sz, none⟩)) w := by
  simp [Instr.indexAt, asIntOf, run_underlying hu, Instr.sureAddr, sizeOf_run he, h0, h1, ptr_add]

theorem stIndexAddr_sound {t : TypeId} {a n v : AV} {ua un : Value} {cs : List Prop} (hT : ∀ t i, T t = some i → TF P t i) (h : stIndexAddr T M.H t a n = some (cs, v)) (ha : AVR M a ua) (hn : AVR M n un)
    (hc : AllP cs) : ∃ u, (∀ w, (Instr.indexAt t ua un).run P w = .ok u w) ∧ AVR M v u := by
  unfold stIndexAddr at h
  simp only [nadd_eq] at h
  split at h
  · rename_i v0 k m
    have e := VR_int hn
    subst e
    split at h
    · rename_i elem _ _ _ _ hi
      have hu := kind_slice (hT _ _ hi) rfl
      split at h
      · rename_i ie hie
        have hF := hT _ _ hie
        split at h
        · rename_i id off len
          split at h
          · rename_i o ho
            cases hb : (Nat.beq ie.sz o.sz && Nat.ble 1 ie.sz)
            · rw [hb] at h; cases h
            · rw [hb] at h
              simp only [Bool.and_eq_true] at hb
              have hs := Nat.eq_of_beq_eq_true hb.1
              simp only [cond_true, Option.some.injEq, Prod.mk.injEq] at h
              obtain ⟨rfl, rfl⟩ := h
              obtain ⟨h0, h1, _⟩ := hc
              obtain ⟨o', ho', hlen, hv⟩ := ha
              rw [ho] at ho'
              cases ho'
              rcases hv with ⟨hz, _⟩ | ⟨b, p, x, cap, hm, rfl, h2, h3, rfl, h4⟩
              · omega
              · refine ⟨_, indexAt_slice hu hF b _ len cap k m h0 h1, o, b, p, ho, hm, ?_⟩
                rw [hs, Nat.add_zero, Nat.add_assoc, Nat.add_mul]
          · cases h
        · rename_i c
          cases hb : Nat.beq ie.sz c.sz
          · rw [hb] at h; cases h
          · rw [hb] at h
            have hs := Nat.eq_of_beq_eq_true hb
            simp only [cond_true, Option.some.injEq, Prod.mk.injEq] at h
            obtain ⟨rfl, rfl⟩ := h
            obtain ⟨h0, h1, _⟩ := hc
            obtain ⟨A, cap, rfl, h2, h3, h4⟩ := ha
            rcases h4 with h4 | ⟨b, p, rfl, hr⟩
            · omega
            · refine ⟨_, indexAt_slice hu hF b _ c.len cap k m h0 h1, by omega, c.sz_pos, b, p, ?_, hr⟩
              rw [hs, Nat.add_zero]
        · rename_i c
          cases hb : Nat.beq ie.sz c.sz
          · rw [hb] at h; cases h
          · rw [hb] at h
            have hs := Nat.eq_of_beq_eq_true hb
            simp only [cond_true, Option.some.injEq, Prod.mk.injEq] at h
            obtain ⟨rfl, rfl⟩ := h
            obtain ⟨h0, h1, _⟩ := hc
            obtain ⟨A, cap, rfl, h2, h3, h4⟩ := ha
            rcases h4 with h4 | ⟨b, p, rfl, hr⟩
            · omega
            · refine ⟨_, indexAt_slice hu hF b _ c.len cap k m h0 h1, by omega, c.sz_pos, b, p, ?_, hr⟩
              rw [hs, Nat.add_zero]
        · cases h
      · cases h
    · rename_i len elem _ _ _ _ hi
      have hu := kind_array (hT _ _ hi) rfl
      split at h
      · rename_i ie hie
        have hF := hT _ _ hie
        split at h
        · rename_i id i j
          split at h
          · rename_i o ho
            obtain ⟨o', b, p, ho', hm, rfl⟩ := ha
            rw [ho] at ho'
            cases ho'
            cases hb : Nat.beq ie.sz o.sz
            · rw [hb] at h
              simp only [cond_false] at h
              cases hb2 : Nat.beq o.sz 1
              · rw [hb2] at h
                simp only [cond_false, Option.some.injEq, Prod.mk.injEq] at h
                obtain ⟨rfl, rfl⟩ := h
                obtain ⟨h0, h1, _⟩ := hc
                exact ⟨_, indexAt_array hu hF b _ k m h0 h1, o, b, p, ho, hm, by rw [Nat.add_assoc, Nat.add_assoc]⟩
              · rw [hb2] at h
                have hs := Nat.eq_of_beq_eq_true hb2
                simp only [cond_true, Option.some.injEq, Prod.mk.injEq] at h
                obtain ⟨rfl, rfl⟩ := h
                obtain ⟨h0, h1, _⟩ := hc
                refine ⟨_, indexAt_array hu hF b _ k m h0 h1, o, b, p, ho, hm, ?_⟩
                rw [hs, Nat.mul_one, Nat.mul_one]
                congr 3
                omega
            · rw [hb] at h
              have hs := Nat.eq_of_beq_eq_true hb
              simp only [cond_true, Option.some.injEq, Prod.mk.injEq] at h
              obtain ⟨rfl, rfl⟩ := h
              obtain ⟨h0, h1, _⟩ := hc
              refine ⟨_, indexAt_array hu hF b _ k m h0 h1, o, b, p, ho, hm, ?_⟩
              rw [hs, Nat.add_mul]
              congr 3
              omega
          · cases h
        · cases h
      · cases h
    · cases h
  · cases h

theorem stIndex_sound {t : TypeId} {a n v : AV} {ua un : Value} {cs : List Prop} (hT : ∀ t i, T t = some i → TF P t i) (h : stIndex T t a n = some (cs, v)) (ha : AVR M a ua) (hn : AVR M n un)
    (hc : AllP cs) (w : World) : ∃ u, (Instr.index t ua un).run P w = .ok u w ∧ AVR M v u := by
  unfold stIndex at h
  split at h
  · rename_i vs k m
    have e := VR_int hn
    subst e
    obtain ⟨xs, rfl, hx⟩ := ha
    split at h
    · rename_i len elem _ _ _ _ hi
      have hu := kind_array (hT _ _ hi) rfl
      split at h
      · rename_i ie hie
        have hF := hT _ _ hie
        cases hag : ie.kind.agg
        · rw [hag] at h
          simp only [cond_false] at h
          cases hb : Nat.beq ie.sz 1
          · rw [hb] at h; cases h
          · rw [hb] at h
            have hs := Nat.eq_of_beq_eq_true hb
            simp only [cond_true] at h
            split at h
            · rename_i k2 l2 hin
              simp only [Option.some.injEq, Prod.mk.injEq] at h
              obtain ⟨rfl, rfl⟩ := h
              obtain ⟨h0, h1, h2, _⟩ := hc
              obtain ⟨u, hu', hv⟩ := hx.2 _ _ (intsIn_at hin m.toNat (by omega))
              refine ⟨u, ?_, hv⟩
              simp [Instr.index, asIntOf, run_underlying hu, h0, h1, sizeOf_run hF, hs, part, isAgg_run hF.kind, hag, hu']
            · split at h
              · rename_i v1 hv1
                simp only [Option.some.injEq, Prod.mk.injEq] at h
                obtain ⟨rfl, rfl⟩ := h
                obtain ⟨h0, h1, _⟩ := hc
                obtain ⟨u, hu', hv⟩ := hx.2 _ _ hv1
                refine ⟨u, ?_, hv⟩
                simp [Instr.index, asIntOf, run_underlying hu, h0, h1, sizeOf_run hF, hs, part, isAgg_run hF.kind, hag, hu']
              · cases h
        · rw [hag] at h; cases h
      · cases h
    · cases h
  · cases h

theorem stExtract_sound {i : Nat} {a v : AV} {ua : Value} {cs : List Prop} (h : stExtract i a = some (cs, v)) (ha : AVR M a ua) (w : World) : ∃ u, (Instr.extract ua i).run P w = .ok u w ∧ AVR M v u := by
  unfold stExtract at h
  split at h
  · rename_i es
    obtain ⟨us, rfl, hn, he⟩ := ha
    split at h
    · rename_i vs hv
      simp only [Option.some.injEq, Prod.mk.injEq] at h
      obtain ⟨rfl, rfl⟩ := h
      obtain ⟨x, hx, hr⟩ := he i _ hv
      exact ⟨x, by simp [Instr.extract, hx], hr⟩
    · rename_i v1 hv
      simp only [ret1, Option.some.injEq, Prod.mk.injEq] at h
      obtain ⟨rfl, rfl⟩ := h
      obtain ⟨x, hx, hr⟩ := he i _ hv
      exact ⟨x, by simp [Instr.extract, hx], hr⟩
    · cases h
  · cases h

end
end Go.Ab
