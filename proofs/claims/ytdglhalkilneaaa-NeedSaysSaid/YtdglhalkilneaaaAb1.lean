/- The abstract machine, part 1: values, heaps, and how they stand to the model's memory; what an operation may change, and that all else stays as it was. -/
import Derived.WalkKit
import Derived.Deep.Draws
import Derived.Orders
namespace Go.Ab

/-- An arc: two nodes and a number. -/
structure Arc where
  src : Int
  dst : Int
  cap : Int
instance : Inhabited Arc := ⟨⟨0, 0, 0⟩⟩
theorem Arc.ext_iff' {a b : Arc} : (a.src = b.src ∧ a.dst = b.dst ∧ a.cap = b.cap) ↔ a = b := by
  cases a; cases b; simp
instance : DecidableEq Arc := fun _ _ => decidable_of_iff _ Arc.ext_iff'

/-- An arc of a round. -/
structure Nd where
  src : Int
  dst : Int
  low : Int
  cap : Int
instance : Inhabited Nd := ⟨⟨0, 0, 0, 0⟩⟩
theorem Nd.ext_iff' {a b : Nd} : (a.src = b.src ∧ a.dst = b.dst ∧ a.low = b.low ∧ a.cap = b.cap) ↔ a = b := by
  cases a; cases b; simp
instance : DecidableEq Nd := fun _ _ => decidable_of_iff _ Nd.ext_iff'

/-- What a slice without memory of its own holds. -/
inductive C0 where
  | ints (k : IntKind) (xs : List Int)
  | bools (xs : List Bool)
  | arcs (xs : List Arc)
  | nds (xs : List Nd)
  | steps (xs : List (Int × Bool))
  | strs (xs : List ByteArray)

/-- What a slice holds whose elements hold slices. -/
inductive C1 where
  | rows (xs : List (List Int))
  | brows (xs : List (List Bool))
  | arows (xs : List (List Arc))
  | pieces (xs : List (Int × List Int))

/-- A value of one cell. -/
inductive V1 where
  | any
  | bool (b : Bool)
  | int (k : IntKind) (n : Int)
  | str (s : ByteArray)
  | nilp
  | nilf
  | ptr (id i j : Nat)
  | rw (id off len : Nat)
  | nils
  | ro (c : C0)
  | rp (c : C0) (i j : Nat)
  | rs (c : C1)
  | rq (c : C1) (i j : Nat)
  | fn (f : FuncId) (caps : List V1)

/-- What a slot of a frame holds. -/
inductive AV where
  | one (v : V1)
  | agg (vs : List V1)
  | tup (es : List (Bool × List V1))
  | whn (g : Bool) (v : AV)

def C0.len : C0 → Nat
  | .ints _ xs => xs.length
  | .bools xs => xs.length
  | .arcs xs => xs.length
  | .nds xs => xs.length
  | .steps xs => xs.length
  | .strs xs => xs.length
def C0.sz : C0 → Nat
  | .ints _ _ => 1
  | .bools _ => 1
  | .arcs _ => 3
  | .nds _ => 4
  | .steps _ => 2
  | .strs _ => 1
def arcCell (a : Arc) : Nat → V1
  | 0 => .int .i64 a.src
  | 1 => .int .i64 a.dst
  | _ => .int .i64 a.cap
def ndCell (a : Nd) : Nat → V1
  | 0 => .int .i64 a.src
  | 1 => .int .i64 a.dst
  | 2 => .int .i64 a.low
  | _ => .int .i64 a.cap
def stepCell (p : Int × Bool) : Nat → V1
  | 0 => .int .i64 p.1
  | _ => .bool p.2
def C0.cell : C0 → Nat → Nat → V1
  | .ints k xs, i, _ => .int k (xs.getD i 0)
  | .bools xs, i, _ => .bool (xs.getD i false)
  | .arcs xs, i, j => arcCell (xs.getD i default) j
  | .nds xs, i, j => ndCell (xs.getD i default) j
  | .steps xs, i, j => stepCell (xs.getD i (0, false)) j
  | .strs xs, i, _ => .str (xs.getD i ByteArray.empty)

def C1.len : C1 → Nat
  | .rows xs => xs.length
  | .brows xs => xs.length
  | .arows xs => xs.length
  | .pieces xs => xs.length
def C1.sz : C1 → Nat
  | .rows _ => 1
  | .brows _ => 1
  | .arows _ => 1
  | .pieces _ => 2
def pieceCell (p : Int × List Int) : Nat → V1
  | 0 => .int .i64 p.1
  | _ => .ro (.ints .i64 p.2)
def C1.cell : C1 → Nat → Nat → V1
  | .rows xs, i, _ => .ro (.ints .i64 (xs.getD i []))
  | .brows xs, i, _ => .ro (.bools (xs.getD i []))
  | .arows xs, i, _ => .ro (.arcs (xs.getD i []))
  | .pieces xs, i, j => pieceCell (xs.getD i (0, [])) j

/-- A block that a call may write. -/
inductive Obj where
  | flat (c : C0)
  | recs (c : C1)
  | box (n sz : Nat) (vs : List V1)
def Obj.len : Obj → Nat
  | .flat c => c.len
  | .recs c => c.len
  | .box n _ _ => n
def Obj.sz : Obj → Nat
  | .flat c => c.sz
  | .recs c => c.sz
  | .box _ sz _ => sz
def Obj.cell : Obj → Nat → Nat → V1
  | .flat c, i, j => c.cell i j
  | .recs c, i, j => c.cell i j
  | .box _ sz vs, i, j => vs.getD (i * sz + j) .any

/-! ### Lists by number -/
def look {α : Type} (x : Nat) : List (Nat × α) → Option α
  | [] => none
  | (k, v) :: r => cond (Nat.beq k x) (some v) (look x r)
def ins {α : Type} (x : Nat) (v : α) : List (Nat × α) → List (Nat × α)
  | [] => [(x, v)]
  | (k, u) :: r => cond (Nat.beq k x) ((x, v) :: r) (cond (Nat.ble x k) ((x, v) :: (k, u) :: r) ((k, u) :: ins x v r))
def del {α : Type} (x : Nat) : List (Nat × α) → List (Nat × α)
  | [] => []
  | (k, u) :: r => cond (Nat.beq k x) (del x r) ((k, u) :: del x r)
def mapV {α : Type} (f : α → α) : List (Nat × α) → List (Nat × α)
  | [] => []
  | (k, u) :: r => (k, f u) :: mapV f r

theorem beq_self (x : Nat) : Nat.beq x x = true := by induction x <;> simp_all [Nat.beq]
theorem beq_ne {x y : Nat} (h : x ≠ y) : Nat.beq x y = false := by
  cases hb : Nat.beq x y
  · rfl
  · exact absurd (Nat.eq_of_beq_eq_true hb) h

section
variable {α : Type}
theorem look_ins_same (x : Nat) (v : α) : ∀ l : List (Nat × α), look x (ins x v l) = some v
  | [] => by simp [ins, look]
  | (k, u) :: r => by
    unfold ins
    by_cases h : k = x
    · subst h; simp [look]
    · simp only [beq_ne h, cond_false]
      cases Nat.ble x k
      · simp [look, beq_ne h, look_ins_same x v r]
      · simp [look]
theorem look_ins_other {x y : Nat} (hne : y ≠ x) (v : α) : ∀ l : List (Nat × α), look y (ins x v l) = look y l
  | [] => by simp [ins, look, beq_ne (Ne.symm hne)]
  | (k, u) :: r => by
    unfold ins
    by_cases h : k = x
    · subst h; simp [look, beq_ne (Ne.symm hne)]
    · simp only [beq_ne h, cond_false]
      cases Nat.ble x k
      · simp [look, look_ins_other hne v r]
      · simp [look, beq_ne (Ne.symm hne)]
theorem look_ins (x y : Nat) (v : α) (l : List (Nat × α)) : look y (ins x v l) = if y = x then some v else look y l := by
  by_cases h : y = x
  · subst h; simp [look_ins_same]
  · simp [h, look_ins_other h]
theorem look_del_same (x : Nat) : ∀ l : List (Nat × α), look x (del x l) = none
  | [] => rfl
  | (k, u) :: r => by
    unfold del
    by_cases h : k = x
    · subst h; simp [look_del_same k r]
    · simp [beq_ne h, look, look_del_same x r]
theorem look_del_other {x y : Nat} (hne : y ≠ x) : ∀ l : List (Nat × α), look y (del x l) = look y l
  | [] => rfl
  | (k, u) :: r => by
    unfold del
    by_cases h : k = x
    · subst h; simp [look, beq_ne (Ne.symm hne), look_del_other hne r]
    · simp [beq_ne h, look, look_del_other hne r]
theorem look_del (x y : Nat) (l : List (Nat × α)) : look y (del x l) = if y = x then none else look y l := by
  by_cases h : y = x
  · subst h; simp [look_del_same]
  · simp [h, look_del_other h]
theorem look_mapV (f : α → α) (x : Nat) : ∀ l : List (Nat × α), look x (mapV f l) = (look x l).map f
  | [] => rfl
  | (k, u) :: r => by
    unfold mapV look
    cases Nat.beq k x
    · simpa using look_mapV f x r
    · rfl
end

abbrev Heap := List (Nat × Obj)

/-! ### What the values mean in a memory -/
structure Mem where
  μ : Nat → Option (Nat × Nat)
  H : Heap
  w : World
  free : Nat → Prop

/-- A block that the call may still write. -/
def Mem.live (M : Mem) (b : Nat) : Prop := ∃ x o p, look x M.H = some o ∧ M.μ x = some (b, p)

/-- Values that hang on no memory. -/
def VB : V1 → Value → Prop
  | .any, v => v.oneCell' = true
  | .bool b, v => v = .bool b
  | .int k n, v => v = .int k n
  | .str s, v => v = .string s
  | .nilp, v => v = .pointer none
  | .nilf, v => v = .nilFunc
  | .nils, v => ∃ A, v = .slice A 0 0
  | _, _ => False

/-- Cells at a place that nobody writes any more. -/
def Mem.rowAt (M : Mem) (len sz : Nat) (C : Nat → Nat → Value → Prop) (b off : Nat) : Prop :=
  (M.free b ∧ ¬ M.live b) ∧ ∀ i, i < len → ∀ j, j < sz → ∃ u, M.w.cell? ⟨b, off + (i * sz + j), none⟩ = some u ∧ C i j u

def Mem.roSl (M : Mem) (len sz : Nat) (C : Nat → Nat → Value → Prop) (v : Value) : Prop :=
  ∃ A cap, v = .slice A len cap ∧ len ≤ cap ∧ cap ≤ maxLen ∧ (len = 0 ∨ ∃ b off, A = some ⟨b, off, none⟩ ∧ M.rowAt len sz C b off)

def Mem.roPt (M : Mem) (len sz : Nat) (C : Nat → Nat → Value → Prop) (i j : Nat) (v : Value) : Prop :=
  i < len ∧ j < sz ∧ ∃ b off, v = .pointer (some ⟨b, off + (i * sz + j), none⟩) ∧ M.rowAt len sz C b off

/-- Values without elements that hold slices. -/
def VF (M : Mem) : V1 → Value → Prop
  | .ro c, v => M.roSl c.len c.sz (fun i j u => VB (c.cell i j) u) v
  | .rp c i j, v => M.roPt c.len c.sz (fun i j u => VB (c.cell i j) u) i j v
  | x, v => VB x v

/-- All values but functions. -/
def VM (M : Mem) : V1 → Value → Prop
  | .rs c, v => M.roSl c.len c.sz (fun i j u => VF M (c.cell i j) u) v
  | .rq c i j, v => M.roPt c.len c.sz (fun i j u => VF M (c.cell i j) u) i j v
  | .ptr id i j, v => ∃ o b p, look id M.H = some o ∧ M.μ id = some (b, p) ∧ v = .pointer (some ⟨b, p + (i * o.sz + j), none⟩)
  | .rw id off len, v => ∃ o, look id M.H = some o ∧ off + len ≤ o.len ∧
      ((len = 0 ∧ ∃ A, v = .slice A 0 0) ∨
       ∃ b p a cap, M.μ id = some (b, p) ∧ v = .slice (some ⟨b, a, none⟩) len cap ∧ len ≤ cap ∧ cap ≤ maxLen ∧
        a = p + off * o.sz ∧ ∃ cur e, M.w.heap[b]? = some (.cells cur e (0, 0)) ∧ p + (off + cap) * o.sz ≤ cur.size)
  | x, v => VF M x v

def VR (M : Mem) : V1 → Value → Prop
  | .fn f caps, v => ∃ cs : List Value, v = .func (.func f) #[] cs.toArray ∧ cs.length = caps.length ∧ ∀ (i : Nat) (c : V1), caps[i]? = some c → ∃ u, cs[i]? = some u ∧ VM M c u
  | x, v => VM M x v

/-- Cells, one by one. -/
def CellsR (M : Mem) (vs : List V1) (cs : Array Value) : Prop := cs.size = vs.length ∧ ∀ (i : Nat) (v : V1), vs[i]? = some v → ∃ u, cs[i]? = some u ∧ VR M v u

def ER (M : Mem) (e : Bool × List V1) (u : Value) : Prop :=
  match e with
  | (true, vs) => ∃ cs, u = .agg cs ∧ CellsR M vs cs
  | (false, [v]) => VR M v u
  | _ => False

def AVR (M : Mem) : AV → Value → Prop
  | .one v, u => VR M v u
  | .agg vs, u => ∃ cs, u = .agg cs ∧ CellsR M vs cs
  | .tup es, u => ∃ us : List Value, u = .tuple us.toArray ∧ us.length = es.length ∧ ∀ (i : Nat) (e : Bool × List V1), es[i]? = some e → ∃ x, us[i]? = some x ∧ ER M e x
  | .whn g v, u => (g = true → AVR M v u) ∧ (g = false → u = undef)

/-- The memory holds what the heap says; blocks that may be written are apart. -/
structure MOk (M : Mem) : Prop where
  fr : ∀ b, M.free b → b < M.w.heap.size ∧ ¬ M.live b
  inj : ∀ x y o o' b p q, look x M.H = some o → look y M.H = some o' → M.μ x = some (b, p) → M.μ y = some (b, q) → x = y
  none_ : ∀ x o, look x M.H = some o → M.μ x = none → o.len = 0
  obj : ∀ x o b p, look x M.H = some o → M.μ x = some (b, p) → ∃ cur e, M.w.heap[b]? = some (.cells cur e (0, 0)) ∧ p + o.len * o.sz ≤ cur.size ∧
    ∀ i, i < o.len → ∀ j, j < o.sz → ∃ u, cur[p + (i * o.sz + j)]? = some u ∧ u.oneCell' = true ∧ VR M (o.cell i j) u

/-- Outside of what may be written all is as it was, and stays so. -/
structure Keep (M M' : Mem) : Prop where
  os : M'.w.os = M.w.os
  tape : M'.w.tape = M.w.tape
  output : M'.w.output = M.w.output
  size : M.w.heap.size ≤ M'.w.heap.size
  still : ∀ b, b < M.w.heap.size → ¬ M.live b → M'.w.heap[b]? = M.w.heap[b]? ∧ ¬ M'.live b
  free_ : ∀ b, M.free b → M'.free b
  only : ∀ b, M'.free b → M.free b ∨ M.live b ∨ M.w.heap.size ≤ b

theorem Keep.refl (M : Mem) : Keep M M := ⟨rfl, rfl, rfl, Nat.le_refl _, fun _ _ h => ⟨rfl, h⟩, fun _ h => h, fun _ h => .inl h⟩
theorem Keep.trans {A B C : Mem} (h : Keep A B) (k : Keep B C) : Keep A C :=
  ⟨k.os.trans h.os, k.tape.trans h.tape, k.output.trans h.output, Nat.le_trans h.size k.size, fun b hb hl =>
    let ⟨e1, l1⟩ := h.still b hb hl
    let ⟨e2, l2⟩ := k.still b (Nat.lt_of_lt_of_le hb h.size) l1
    ⟨e2.trans e1, l2⟩, fun b hb => k.free_ b (h.free_ b hb), fun b hb => by
    rcases k.only b hb with h1 | h1 | h1
    · exact h.only b h1
    · rcases Nat.lt_or_ge b A.w.heap.size with hlt | hge
      · by_cases hl : A.live b
        · exact .inr (.inl hl)
        · exact absurd h1 (h.still b hlt hl).2
      · exact .inr (.inr hge)
    · exact .inr (.inr (Nat.le_trans h.size h1))⟩

/-- What is still called by its number is still there, but for the numbers X. -/
structure Ext (X : Nat → Bool) (M M' : Mem) : Prop extends Keep M M' where
  ids : ∀ x o, X x = false → look x M.H = some o → ∃ o', look x M'.H = some o' ∧ o'.sz = o.sz ∧ o.len ≤ o'.len ∧ M'.μ x = M.μ x ∧
    ∀ b p cur e, M.μ x = some (b, p) → M.w.heap[b]? = some (.cells cur e (0, 0)) → ∃ cur', M'.w.heap[b]? = some (.cells cur' e (0, 0)) ∧ cur'.size = cur.size

theorem Ext.refl (X : Nat → Bool) (M : Mem) : Ext X M M := ⟨Keep.refl M, fun _x o _ h => ⟨o, h, rfl, Nat.le_refl _, rfl, fun _ _ cur _e _ hc => ⟨cur, hc, rfl⟩⟩⟩

def noX : Nat → Bool := fun _ => false

theorem Ext.trans {X : Nat → Bool} {A B C : Mem} (h : Ext X A B) (k : Ext X B C) : Ext X A C :=
  ⟨h.toKeep.trans k.toKeep, fun x o hx hl => by
    obtain ⟨o1, l1, s1, n1, m1, c1⟩ := h.ids x o hx hl
    obtain ⟨o2, l2, s2, n2, m2, c2⟩ := k.ids x o1 hx l1
    refine ⟨o2, l2, s2.trans s1, Nat.le_trans n1 n2, m2.trans m1, fun b p cur e hm hc => ?_⟩
    obtain ⟨cur1, hc1, z1⟩ := c1 b p cur e hm hc
    obtain ⟨cur2, hc2, z2⟩ := c2 b p cur1 e (by rw [m1]; exact hm) hc1
    exact ⟨cur2, hc2, z2.trans z1⟩⟩
theorem Ext.mono {X Y : Nat → Bool} {A B : Mem} (h : Ext X A B) (hxy : ∀ x, X x = true → Y x = true) : Ext Y A B :=
  ⟨h.toKeep, fun x o hx hl => h.ids x o (by
    cases hX : X x
    · rfl
    · rw [hxy x hX] at hx; cases hx) hl⟩

/-! ### References to the numbers X are forgotten -/
def clr1 (X : Nat → Bool) : V1 → V1
  | .ptr id i j => cond (X id) .any (.ptr id i j)
  | .rw id off len => cond (X id) .any (.rw id off len)
  | v => v
def clrV (X : Nat → Bool) : V1 → V1
  | .fn f caps => .fn f (caps.map (clr1 X))
  | v => clr1 X v
def clrA (X : Nat → Bool) : AV → AV
  | .one v => .one (clrV X v)
  | .agg vs => .agg (vs.map (clrV X))
  | .tup es => .tup (es.map fun e => (e.1, e.2.map (clrV X)))
  | .whn g v => .whn g (clrA X v)
def clrO (X : Nat → Bool) : Obj → Obj
  | .box n sz vs => .box n sz (vs.map (clrV X))
  | o => o

theorem VF_oneCell {M : Mem} {v : V1} {u : Value} (h : VF M v u) : u.oneCell' = true := by
  cases v <;> simp only [VF, VB, Mem.roSl, Mem.roPt] at h
  case any => exact h
  case ro => obtain ⟨A, cap, rfl, _⟩ := h; rfl
  case rp => obtain ⟨_, _, b, off, rfl, _⟩ := h; rfl
  case nils => obtain ⟨A, rfl⟩ := h; rfl
  all_goals first | (subst h; rfl) | exact h.elim
theorem VM_oneCell {M : Mem} {v : V1} {u : Value} (h : VM M v u) : u.oneCell' = true := by
  cases v <;> simp only [VM] at h <;> try exact VF_oneCell h
  case rs => obtain ⟨A, cap, rfl, _⟩ := h; rfl
  case rq => obtain ⟨_, _, b, off, rfl, _⟩ := h; rfl
  case ptr => obtain ⟨o, b, p, _, _, rfl⟩ := h; rfl
  case rw => obtain ⟨o, _, _, ⟨_, A, rfl⟩ | ⟨b, p, a, cap, _, rfl, _⟩⟩ := h <;> rfl
theorem VR_oneCell {M : Mem} {v : V1} {u : Value} (h : VR M v u) : u.oneCell' = true := by
  cases v <;> simp only [VR] at h <;> try exact VM_oneCell h
  obtain ⟨cs, rfl, _⟩ := h; rfl

section
variable {X : Nat → Bool} {M M' : Mem}

theorem rowAt_mono {len sz : Nat} {C C' : Nat → Nat → Value → Prop} {b off : Nat} (hk : Keep M M') (hC : ∀ i j u, C i j u → C' i j u) (h : M.rowAt len sz C b off)
    (hb : b < M.w.heap.size) : M'.rowAt len sz C' b off := by
  obtain ⟨⟨hf, hl⟩, hc⟩ := h
  obtain ⟨he, hl'⟩ := hk.still b hb hl
  refine ⟨⟨hk.free_ b hf, hl'⟩, fun i hi j hj => ?_⟩
  obtain ⟨u, hu, hcu⟩ := hc i hi j hj
  exact ⟨u, (World.cell?_of_block (w := M.w) (w' := M'.w) (a := ⟨b, off + (i * sz + j), none⟩) he).trans hu, hC i j u hcu⟩

theorem rowAt_lt {len sz : Nat} {C : Nat → Nat → Value → Prop} {b off : Nat} (h : M.rowAt len sz C b off) (hlen : 0 < len) (hsz : 0 < sz) : b < M.w.heap.size := by
  obtain ⟨u, hu, _⟩ := h.2 0 hlen 0 hsz
  exact World.block_lt_of_cell? _ _ hu

theorem roSl_mono {len sz : Nat} {C C' : Nat → Nat → Value → Prop} {v : Value} (hk : Keep M M') (hsz : 0 < sz) (hC : ∀ i j u, C i j u → C' i j u) (h : M.roSl len sz C v) : M'.roSl len sz C' v := by
  obtain ⟨A, cap, rfl, h1, h2, h3⟩ := h
  refine ⟨A, cap, rfl, h1, h2, ?_⟩
  rcases h3 with h3 | ⟨b, off, rfl, hr⟩
  · exact .inl h3
  · rcases Nat.eq_zero_or_pos len with h0 | h0
    · exact .inl h0
    · exact .inr ⟨b, off, rfl, rowAt_mono hk hC hr (rowAt_lt hr h0 hsz)⟩

theorem C0.sz_pos (c : C0) : 0 < c.sz := by cases c <;> simp [C0.sz]
theorem C1.sz_pos (c : C1) : 0 < c.sz := by cases c <;> simp [C1.sz]

theorem roPt_mono {len sz : Nat} {C C' : Nat → Nat → Value → Prop} {i j : Nat} {v : Value} (hk : Keep M M') (hC : ∀ i j u, C i j u → C' i j u) (h : M.roPt len sz C i j v) : M'.roPt len sz C' i j v := by
  obtain ⟨hi, hj, b, off, rfl, hr⟩ := h
  exact ⟨hi, hj, b, off, rfl, rowAt_mono hk hC hr (rowAt_lt hr (by omega) (by omega))⟩

theorem VF_keep {v : V1} {u : Value} (hk : Keep M M') (h : VF M v u) : VF M' v u := by
  cases v <;> simp only [VF] at h ⊢ <;> try exact h
  case ro c => exact roSl_mono hk c.sz_pos (fun _ _ _ h => h) h
  case rp c i j => exact roPt_mono hk (fun _ _ _ h => h) h

def V1.low : V1 → Bool
  | .rs _ => false
  | .rq _ _ _ => false
  | .ptr _ _ _ => false
  | .rw _ _ _ => false
  | _ => true
theorem VM_low {M : Mem} {v : V1} {u : Value} (h : v.low = true) : VM M v u = VF M v u := by cases v <;> first | rfl | cases h
theorem clr1_low {X : Nat → Bool} {v : V1} (h : v.low = true) : clr1 X v = v := by cases v <;> first | rfl | cases h

theorem VM_ext {v : V1} {u : Value} (he : Ext X M M') (h : VM M v u) : VM M' (clr1 X v) u := by
  have h1 := VM_oneCell h
  by_cases hlow : v.low = true
  · rw [clr1_low hlow, VM_low hlow]
    rw [VM_low hlow] at h
    exact VF_keep he.toKeep h
  cases v <;> simp only [clr1] <;> try (exact absurd rfl hlow)
  case ptr id i j =>
    cases hX : X id
    · obtain ⟨o, b, p, hl, hm0, rfl⟩ := h
      obtain ⟨o', hl', hs, _, hm, _⟩ := he.ids id o hX hl
      exact ⟨o', b, p, hl', by rw [hm]; exact hm0, by rw [hs]⟩
    · exact h1
  case rw id off len =>
    cases hX : X id
    · obtain ⟨o, hl, h2, h3⟩ := h
      obtain ⟨o', hl', hs, hn, hm, hcur⟩ := he.ids id o hX hl
      refine ⟨o', hl', by omega, ?_⟩
      rcases h3 with h3 | ⟨b, p, a, cap, hm0, rfl, h3, h4, h5, cur, e, hc, h6⟩
      · exact .inl h3
      · obtain ⟨cur', hc', hz⟩ := hcur b p cur e hm0 hc
        exact .inr ⟨b, p, a, cap, by rw [hm]; exact hm0, rfl, h3, h4, by rw [hs]; exact h5, cur', e, hc', by rw [hs, hz]; exact h6⟩
    · exact h1
  case rs c => exact roSl_mono he.toKeep c.sz_pos (fun _ _ _ h => VF_keep he.toKeep h) h
  case rq c i j => exact roPt_mono he.toKeep (fun _ _ _ h => VF_keep he.toKeep h) h

theorem VR_ext {v : V1} {u : Value} (he : Ext X M M') (h : VR M v u) : VR M' (clrV X v) u := by
  by_cases hf : ∃ f caps, v = .fn f caps
  · obtain ⟨f, caps, rfl⟩ := hf
    obtain ⟨cs, rfl, hn, hc⟩ := h
    refine ⟨cs, rfl, by simpa using hn, fun i c hi => ?_⟩
    simp only [List.getElem?_map, Option.map_eq_some_iff] at hi
    obtain ⟨c0, hc0, rfl⟩ := hi
    obtain ⟨u, hu, hv⟩ := hc i c0 hc0
    exact ⟨u, hu, VM_ext he hv⟩
  · have h' : VM M v u := by cases v <;> first | exact h | exact absurd ⟨_, _, rfl⟩ hf
    have h2 := VM_ext he h'
    cases v <;> first | exact absurd ⟨_, _, rfl⟩ hf | exact h2 | skip
    all_goals (simp only [clr1, clrV] at h2 ⊢; revert h2; cases X _ <;> exact fun h => h)

theorem CellsR_ext {vs : List V1} {cs : Array Value} (he : Ext X M M') (h : CellsR M vs cs) : CellsR M' (vs.map (clrV X)) cs := by
  refine ⟨by simpa using h.1, fun i v hi => ?_⟩
  simp only [List.getElem?_map, Option.map_eq_some_iff] at hi
  obtain ⟨v0, hv0, rfl⟩ := hi
  obtain ⟨u, hu, hv⟩ := h.2 i v0 hv0
  exact ⟨u, hu, VR_ext he hv⟩

theorem ER_ext {e : Bool × List V1} {u : Value} (he : Ext X M M') (h : ER M e u) : ER M' (e.1, e.2.map (clrV X)) u := by
  obtain ⟨b, vs⟩ := e
  cases b
  · match vs, h with
    | [v], h => exact VR_ext he h
  · obtain ⟨cs, rfl, hc⟩ := h
    exact ⟨cs, rfl, CellsR_ext he hc⟩

theorem AVR_ext {v : AV} {u : Value} (he : Ext X M M') (h : AVR M v u) : AVR M' (clrA X v) u := by
  induction v with
  | one v => exact VR_ext he h
  | agg vs => obtain ⟨cs, rfl, hc⟩ := h; exact ⟨cs, rfl, CellsR_ext he hc⟩
  | tup es =>
    obtain ⟨us, rfl, hn, hc⟩ := h
    refine ⟨us, rfl, by simpa using hn, fun i e hi => ?_⟩
    simp only [List.getElem?_map, Option.map_eq_some_iff] at hi
    obtain ⟨e0, he0, rfl⟩ := hi
    obtain ⟨x, hx, hr⟩ := hc i e0 he0
    exact ⟨x, hx, ER_ext he hr⟩
  | whn g v ih => exact ⟨fun hg => ih (h.1 hg), h.2⟩

theorem clr1_no (v : V1) : clr1 noX v = v := by cases v <;> rfl
theorem clrV_no (v : V1) : clrV noX v = v := by
  cases v <;> try rfl
  rename_i f caps
  have h : List.map (clr1 noX) caps = caps := by
    rw [List.map_congr_left (g := id) (fun v _ => clr1_no v)]; simp
  simp [clrV, h]
theorem map_clrV_no (vs : List V1) : vs.map (clrV noX) = vs := by
  rw [List.map_congr_left (g := id) (fun v _ => clrV_no v)]; simp
theorem clrA_no (v : AV) : clrA noX v = v := by
  induction v with
  | one v => simp [clrA, clrV_no]
  | agg vs => simp [clrA, map_clrV_no]
  | tup es =>
    simp only [clrA]
    congr 1
    rw [List.map_congr_left (g := id) (fun e _ => by simp [map_clrV_no])]
    simp
  | whn g v ih => simp [clrA, ih]
theorem clrO_no (o : Obj) : clrO noX o = o := by cases o <;> simp [clrO, map_clrV_no]

theorem AVR_ext0 {v : AV} {u : Value} (he : Ext noX M M') (h : AVR M v u) : AVR M' v u := by
  have := AVR_ext he h
  rwa [clrA_no] at this
theorem VR_ext0 {v : V1} {u : Value} (he : Ext noX M M') (h : VR M v u) : VR M' v u := by
  have := VR_ext he h
  rwa [clrV_no] at this
end

theorem clrO_sz (X : Nat → Bool) (o : Obj) : (clrO X o).sz = o.sz := by cases o <;> rfl
theorem clrO_len (X : Nat → Bool) (o : Obj) : (clrO X o).len = o.len := by cases o <;> rfl
theorem arcCell_clr (X : Nat → Bool) (a : Arc) (j : Nat) : clrV X (arcCell a j) = arcCell a j := by unfold arcCell; split <;> rfl
theorem ndCell_clr (X : Nat → Bool) (a : Nd) (j : Nat) : clrV X (ndCell a j) = ndCell a j := by unfold ndCell; split <;> rfl
theorem stepCell_clr (X : Nat → Bool) (a : Int × Bool) (j : Nat) : clrV X (stepCell a j) = stepCell a j := by unfold stepCell; split <;> rfl
theorem pieceCell_clr (X : Nat → Bool) (a : Int × List Int) (j : Nat) : clrV X (pieceCell a j) = pieceCell a j := by unfold pieceCell; split <;> rfl
theorem C0_cell_clr (X : Nat → Bool) (c : C0) (i j : Nat) : clrV X (c.cell i j) = c.cell i j := by
  cases c <;> first | rfl | exact arcCell_clr X _ _ | exact ndCell_clr X _ _ | exact stepCell_clr X _ _
theorem C1_cell_clr (X : Nat → Bool) (c : C1) (i j : Nat) : clrV X (c.cell i j) = c.cell i j := by
  cases c <;> first | rfl | exact pieceCell_clr X _ _
theorem clrO_cell (X : Nat → Bool) (o : Obj) (i j : Nat) : (clrO X o).cell i j = clrV X (o.cell i j) := by
  cases o with
  | flat c => exact (C0_cell_clr X c i j).symm
  | recs c => exact (C1_cell_clr X c i j).symm
  | box n sz vs =>
    show (vs.map (clrV X)).getD (i * sz + j) .any = clrV X (vs.getD (i * sz + j) .any)
    simp only [List.getD_eq_getElem?_getD, List.getElem?_map]
    cases vs[i * sz + j]? <;> rfl

/-- Values of the memory's cells lead to a flat cell. -/
theorem C0_cell_VB {M : Mem} {c : C0} {i j : Nat} {u : Value} (h : VB (c.cell i j) u) : VF M (c.cell i j) u := by
  cases c <;> first | exact h | skip
  all_goals (simp only [C0.cell] at h ⊢; first | (unfold arcCell at h ⊢) | (unfold ndCell at h ⊢) | (unfold stepCell at h ⊢)) <;> (split at h <;> exact h)
theorem C0_cell_VR {M : Mem} {c : C0} {i j : Nat} {u : Value} (h : VB (c.cell i j) u) : VR M (c.cell i j) u := by
  cases c <;> first | exact h | skip
  all_goals (simp only [C0.cell] at h ⊢; first | (unfold arcCell at h ⊢) | (unfold ndCell at h ⊢) | (unfold stepCell at h ⊢)) <;> (split at h <;> exact h)
theorem C0_cell_back {M : Mem} {c : C0} {i j : Nat} {u : Value} (h : VR M (c.cell i j) u) : VB (c.cell i j) u := by
  cases c <;> first | exact h | skip
  all_goals (simp only [C0.cell] at h ⊢; first | (unfold arcCell at h ⊢) | (unfold ndCell at h ⊢) | (unfold stepCell at h ⊢)) <;> (split at h <;> exact h)
theorem C1_cell_VR {M : Mem} {c : C1} {i j : Nat} {u : Value} (h : VF M (c.cell i j) u) : VR M (c.cell i j) u := by
  cases c <;> first | exact h | skip
  all_goals (simp only [C1.cell] at h ⊢; unfold pieceCell at h ⊢; split at h <;> exact h)
theorem C1_cell_back {M : Mem} {c : C1} {i j : Nat} {u : Value} (h : VR M (c.cell i j) u) : VF M (c.cell i j) u := by
  cases c <;> first | exact h | skip
  all_goals (simp only [C1.cell] at h ⊢; unfold pieceCell at h ⊢; split at h <;> exact h)

/-! ### The state of a frame -/
structure St where
  n : Nat
  tm : List (Nat × AV)
  hp : Heap

structure Rel (M : Mem) (s : St) (a : Act) : Prop where
  hp : M.H = s.hp
  ok : MOk M
  defers : a.defers = []
  size : a.tmps.size = s.n
  tm : ∀ d v, look d s.tm = some v → ∃ u, a.tmps[d]? = some u ∧ AVR M v u

end Go.Ab
