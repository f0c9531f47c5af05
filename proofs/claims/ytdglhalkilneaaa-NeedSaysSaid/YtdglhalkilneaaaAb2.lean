/- The abstract machine, part 2: types, operands, and the operations that change no memory. -/
import Derived.Test.YtdglhalkilneaaaAb1
namespace Go.Ab

/-- A sum that is its second limb where the first is nought. -/
def nadd (a b : Nat) : Nat := cond (Nat.beq a 0) b (a + b)
theorem nadd_eq (a b : Nat) : nadd a b = a + b := by
  unfold nadd
  cases h : Nat.beq a 0
  · rfl
  · obtain rfl := Nat.eq_of_beq_eq_true h
    simp

/-! ### Types, as far as the operations ask for them -/
inductive TK where
  | slice
  | array (n : Nat)
  | struct
  | int (k : IntKind)
  | bool
  | string
  | pointer
  | other

def TK.agg : TK → Bool
  | .struct => true
  | .array _ => true
  | _ => false

structure TI where
  sz : Nat
  bytes : Nat
  kind : TK
  elem : TypeId
  fields : List (Nat × Nat × Bool)
  zero : List V1
  eqs : Bool
  c0 : Option C0
  c1 : Option C1

/-- A constant, or a cell of a zero value. -/
def ofVal : Value → V1
  | .bool b => .bool b
  | .int k n => .int k n
  | .string s => .str s
  | .pointer none => .nilp
  | .nilFunc => .nilf
  | .slice A 0 0 => (match A with | none => .nils | some _ => .any)
  | _ => .any

def kindOk : TK → TypeId → Option TypeDesc → Bool
  | .slice, e, some (.slice e') => Nat.beq e e'
  | .array n, e, some (.array n' e') => Nat.beq n n' && Nat.beq e e'
  | .struct, _, some (.struct _) => true
  | .int k, _, some (.int k') => decide (k = k')
  | .bool, _, some .bool => true
  | .string, _, some .string => true
  | .pointer, e, some (.pointer e') => Nat.beq e e'
  | .other, _, some d => (match d with | .struct _ => false | .array _ _ => false | _ => true)
  | _, _, _ => false

def aggB (P : Program) (t : TypeId) : Bool :=
  match P.underlying t with
  | some (.struct _) => true
  | some (.array _ _) => true
  | _ => false

def fieldsOf (P : Program) (t : TypeId) : List (Nat × Nat × Bool) :=
  match P.underlying t with
  | some (.struct fs) => fs.toList.map fun f => (f.offset, if (P.underlying f.type).isSome then P.cellsOf f.type else 0, aggB P f.type)
  | _ => []

/-- Do all fields of a struct compare as integers? -/
def intFields (P : Program) (t : TypeId) : Bool :=
  match P.underlying t with
  | some (.struct fs) => fs.toList.zipIdx.all fun p => p.1.name != "_" && Nat.beq p.1.offset p.2 && (match P.underlying p.1.type with | some (.int _) => true | _ => false)
  | _ => false

def factsOf (P : Program) (t : TypeId) (k : TK) (e : TypeId) (q : Bool) : Option (Nat × Nat × List V1 × List (Nat × Nat × Bool)) :=
  match P.info? t with
  | none => none
  | some ti =>
    match ti.zero with
    | none => none
    | some z =>
      if Nat.beq ti.size z.cells.size && z.cells.toList.all (·.oneCell') && kindOk k e (P.underlying t) && (!q || (intFields P t && !P.stoodInHeld t && !P.eqGuardType P.depth t)) then
        some (ti.size, ti.bytes, z.cells.toList.map ofVal, fieldsOf P t)
      else none

def TOk1 (P : Program) (t : TypeId) (i : TI) : Prop := factsOf P t i.kind i.elem i.eqs = some (i.sz, i.bytes, i.zero, i.fields)

def TOkL (P : Program) : List (Nat × TI) → Prop
  | [] => True
  | (t, i) :: r => TOk1 P t i ∧ TOkL P r

theorem TOkL.at_ {P : Program} {t : TypeId} {i : TI} : ∀ {L : List (Nat × TI)}, TOkL P L → look t L = some i → TOk1 P t i
  | [], _, h => by cases h
  | (k, j) :: r, hL, h => by
    unfold look at h
    cases hb : Nat.beq k t
    · rw [hb] at h; exact TOkL.at_ hL.2 h
    · rw [hb] at h
      obtain rfl := Nat.eq_of_beq_eq_true hb
      simp only [cond_true, Option.some.injEq] at h
      subst h
      exact hL.1

theorem tokL_of {P : Program} : ∀ {l : List (Nat × TI)}, l.map (fun p => factsOf P p.1 p.2.kind p.2.elem p.2.eqs) = l.map (fun p => some (p.2.sz, p.2.bytes, p.2.zero, p.2.fields)) → TOkL P l
  | [], _ => trivial
  | (t, i) :: r, h => by
    simp only [List.map_cons, List.cons.injEq] at h
    exact ⟨h.1, tokL_of h.2⟩

structure TF (P : Program) (t : TypeId) (i : TI) : Prop where
  info : ∃ ti z, P.info? t = some ti ∧ ti.size = i.sz ∧ ti.bytes = i.bytes ∧ ti.zero = some z ∧ i.zero = z.cells.toList.map ofVal ∧ (∀ u ∈ z.cells.toList, u.oneCell' = true)
  szz : i.sz = i.zero.length
  kind : kindOk i.kind i.elem (P.underlying t) = true
  fields : fieldsOf P t = i.fields
  eqs : i.eqs = true → intFields P t = true ∧ P.stoodInHeld t = false ∧ P.eqGuardType P.depth t = false

theorem TOk1.facts {P : Program} {t : TypeId} {i : TI} (h : TOk1 P t i) : TF P t i := by
  unfold TOk1 factsOf at h
  cases hi : P.info? t with
  | none => rw [hi] at h; cases h
  | some ti =>
    rw [hi] at h
    simp only at h
    cases hz : ti.zero with
    | none => rw [hz] at h; cases h
    | some z =>
      rw [hz] at h
      simp only at h
      split at h
      · rename_i hc
        simp only [Bool.and_eq_true, List.all_eq_true, Bool.or_eq_true, Bool.not_eq_true'] at hc
        simp only [Option.some.injEq, Prod.mk.injEq] at h
        obtain ⟨h1, h2, h3, h4⟩ := h
        refine ⟨⟨ti, z, hi, h1, h2, hz, h3.symm, hc.1.1.2⟩, by rw [← h1, ← h3, Nat.eq_of_beq_eq_true hc.1.1.1]; simp, hc.1.2, h4, fun hq => ?_⟩
        rcases hc.2 with h5 | h5
        · rw [hq] at h5; cases h5
        · exact ⟨h5.1.1, h5.1.2, h5.2⟩
      · cases h

theorem isAgg_run {P : Program} {t : TypeId} {k : TK} {e : TypeId} (h : kindOk k e (P.underlying t) = true) (w : World) : (isAgg t).run P w = .ok k.agg w := by
  cases hu : P.underlying t with
  | none => rw [hu] at h; cases k <;> simp [kindOk] at h
  | some d =>
    have hr := run_underlying hu w
    rw [hu] at h
    cases k <;> cases d <;> simp [kindOk] at h <;> simp [isAgg, hr, TK.agg]

theorem aggB_run {P : Program} {t : TypeId} (h : (P.underlying t).isSome = true) (w : World) : (isAgg t).run P w = .ok (aggB P t) w := by
  cases hu : P.underlying t with
  | none => rw [hu] at h; cases h
  | some d =>
    have hr := run_underlying hu w
    cases d <;> simp [isAgg, hr, aggB, hu]

theorem VR_ofVal (M : Mem) (u : Value) (h : u.oneCell' = true) : VR M (ofVal u) u := by
  unfold ofVal
  split <;> try exact rfl
  · rename_i A
    cases A
    · exact ⟨none, rfl⟩
    · exact h
  · exact h

theorem CellsR_ofVal (M : Mem) (cs : List Value) (h : ∀ u ∈ cs, u.oneCell' = true) : CellsR M (cs.map ofVal) cs.toArray := by
  refine ⟨by simp, fun i v hi => ?_⟩
  simp only [List.getElem?_map, Option.map_eq_some_iff] at hi
  obtain ⟨u, hu, rfl⟩ := hi
  exact ⟨u, by simpa using hu, VR_ofVal M u (h u (List.mem_of_getElem? hu))⟩

/-! ### Operands -/
def ofConst : Value → Option AV
  | .agg cs => if cs.toList.all (·.oneCell') then some (.agg (cs.toList.map ofVal)) else none
  | .tuple _ => none
  | v => some (.one (ofVal v))

def St.raw (s : St) : Operand → Option AV
  | .tmp t => look t s.tm
  | .const v => ofConst v
  | .func f => some (.one (.fn f []))
  | .global _ => none

theorem raw_sound {M : Mem} {s : St} {a : Act} {x : Operand} {v : AV} (hr : Rel M s a) (h : s.raw x = some v) : AVR M v (a.eval x) := by
  cases x with
  | tmp t =>
    obtain ⟨u, hu, hv⟩ := hr.tm t v h
    have : a.eval (.tmp t) = u := by simp [Act.eval, hu]
    rw [this]; exact hv
  | const c =>
    simp only [St.raw] at h
    show AVR M v c
    cases c <;> simp only [ofConst] at h
    case agg cs =>
      split at h
      · rename_i hc
        simp only [Option.some.injEq] at h
        subst h
        exact ⟨cs, rfl, by simpa using CellsR_ofVal M cs.toList (fun u hu => List.all_eq_true.1 hc u hu)⟩
      · cases h
    case tuple => cases h
    all_goals (simp only [Option.some.injEq] at h; subst h; exact VR_ofVal M _ rfl)
  | func f =>
    simp only [St.raw, Option.some.injEq] at h
    subst h
    exact ⟨[], rfl, rfl, fun i c hi => by simp at hi⟩
  | global g => cases h

/-- Under the guard g: what a guarded slot holds, and what is then owed. -/
def strip (g : Bool) : AV → List Prop × AV
  | .whn g' v => let r := strip g v; ((g = true → g' = true) :: r.1, r.2)
  | v => ([], v)

/-- All of them hold. -/
def AllP : List Prop → Prop
  | [] => True
  | p :: r => p ∧ AllP r
theorem AllP_append {a b : List Prop} : AllP (a ++ b) ↔ AllP a ∧ AllP b := by
  induction a with
  | nil => simp [AllP]
  | cons p r ih => simp [AllP, ih, and_assoc]

theorem strip_sound {M : Mem} {g : Bool} {u : Value} (hg : g = true) : ∀ {v : AV}, AVR M v u → AllP (strip g v).1 → AVR M (strip g v).2 u
  | .one _, h, _ => h
  | .agg _, h, _ => h
  | .tup _, h, _ => h
  | .whn _g' v, h, hc => strip_sound (v := v) hg (h.1 (hc.1 hg)) hc.2

/-! ### Integers -/
def inR : IntKind → Int → Prop
  | .i8, n => -128 ≤ n ∧ n ≤ 127
  | .i16, n => -32768 ≤ n ∧ n ≤ 32767
  | .i32, n => -2147483648 ≤ n ∧ n ≤ 2147483647
  | .i64, n => -9223372036854775808 ≤ n ∧ n ≤ 9223372036854775807
  | .u8, n => 0 ≤ n ∧ n ≤ 255
  | .u16, n => 0 ≤ n ∧ n ≤ 65535
  | .u32, n => 0 ≤ n ∧ n ≤ 4294967295
  | .u64, n => 0 ≤ n ∧ n ≤ 18446744073709551615
theorem wrap_in {k : IntKind} {n : Int} (h : inR k n) : k.wrap n = n := by
  cases k
  · exact IntWalk.i8_in n h
  · exact IntWalk.i16_in n h
  · exact IntWalk.i32_in n h
  · exact IntWalk.i64_in n h
  · exact IntWalk.u8_in n h
  · exact IntWalk.u16_in n h
  · exact IntWalk.u32_in n h
  · exact IntWalk.u64_in n h

def iand (x y : Int) : Int := ((x.toNat &&& y.toNat : Nat) : Int)
def ior (x y : Int) : Int := ((x.toNat ||| y.toNat : Nat) : Int)
def ixor (x y : Int) : Int := ((x.toNat ^^^ y.toNat : Nat) : Int)
def iandn (x y : Int) : Int := ((x.toNat ^^^ (x.toNat &&& y.toNat) : Nat) : Int)
/-- Not below 0, and in the kind's range. -/
def nnR (k : IntKind) (n : Int) : Prop := 0 ≤ n ∧ inR k n

theorem bits_pos (k : IntKind) : 0 < k.bits := by cases k <;> decide
theorem nnR_lt {k : IntKind} {n : Int} (h : nnR k n) : n.toNat < 2 ^ k.bits ∧ (k.signed = true → n.toNat < 2 ^ (k.bits - 1)) := by
  obtain ⟨h0, h1⟩ := h
  cases k <;> simp [inR, IntKind.bits, IntKind.signed] at * <;> omega
theorem wrap_nat {k : IntKind} {n : Nat} (h : n < 2 ^ k.bits ∧ (k.signed = true → n < 2 ^ (k.bits - 1))) : k.wrap (n : Int) = n := by
  apply wrap_in
  cases k <;> simp [inR, IntKind.bits, IntKind.signed] at * <;> omega
theorem ofInt_nat {k : IntKind} {x : Int} (h : nnR k x) : (BitVec.ofInt k.bits x).toNat = x.toNat := by
  obtain ⟨n, rfl⟩ := Int.eq_ofNat_of_zero_le h.1
  have := (nnR_lt h).1
  rw [BitVec.ofInt_natCast, BitVec.toNat_ofNat, Int.toNat_natCast] at *
  exact Nat.mod_eq_of_lt this

theorem and_lt {k : IntKind} {a b : Nat} (ha : a < 2 ^ k.bits ∧ (k.signed = true → a < 2 ^ (k.bits - 1))) : (a &&& b) < 2 ^ k.bits ∧ (k.signed = true → (a &&& b) < 2 ^ (k.bits - 1)) :=
  ⟨Nat.lt_of_le_of_lt Nat.and_le_left ha.1, fun h => Nat.lt_of_le_of_lt Nat.and_le_left (ha.2 h)⟩
theorem or_lt {k : IntKind} {a b : Nat} (ha : a < 2 ^ k.bits ∧ (k.signed = true → a < 2 ^ (k.bits - 1))) (hb : b < 2 ^ k.bits ∧ (k.signed = true → b < 2 ^ (k.bits - 1))) :
    (a ||| b) < 2 ^ k.bits ∧ (k.signed = true → (a ||| b) < 2 ^ (k.bits - 1)) :=
  ⟨Nat.or_lt_two_pow ha.1 hb.1, fun h => Nat.or_lt_two_pow (ha.2 h) (hb.2 h)⟩
theorem xor_lt {k : IntKind} {a b : Nat} (ha : a < 2 ^ k.bits ∧ (k.signed = true → a < 2 ^ (k.bits - 1))) (hb : b < 2 ^ k.bits ∧ (k.signed = true → b < 2 ^ (k.bits - 1))) :
    (a ^^^ b) < 2 ^ k.bits ∧ (k.signed = true → (a ^^^ b) < 2 ^ (k.bits - 1)) :=
  ⟨Nat.xor_lt_two_pow ha.1 hb.1, fun h => Nat.xor_lt_two_pow (ha.2 h) (hb.2 h)⟩

theorem xor_and_not {n : Nat} (x y : BitVec n) : x &&& ~~~y = x ^^^ (x &&& y) := by
  apply BitVec.eq_of_getLsbD_eq
  intro i hi
  simp only [BitVec.getLsbD_and, BitVec.getLsbD_xor, BitVec.getLsbD_not, hi, decide_true, Bool.true_and]
  cases x.getLsbD i <;> cases y.getLsbD i <;> rfl

/-- An integer operation: what it owes, and its value. -/
def intBin (op : BinOp) (k : IntKind) (x y : Int) : Option (List Prop × V1) :=
  match op with
  | .add => some ([inR k (x + y)], .int k (x + y))
  | .sub => some ([inR k (x - y)], .int k (x - y))
  | .mul => some ([inR k (x * y)], .int k (x * y))
  | .quo => some ([y ≠ 0, inR k (x.tdiv y)], .int k (x.tdiv y))
  | .rem => some ([y ≠ 0], .int k (x.tmod y))
  | .and => some ([nnR k x, nnR k y], .int k (iand x y))
  | .or => some ([nnR k x, nnR k y], .int k (ior x y))
  | .xor => some ([nnR k x, nnR k y], .int k (ixor x y))
  | .andNot => some ([nnR k x, nnR k y], .int k (iandn x y))
  | .eql => some ([], .bool (decide (x = y)))
  | .neq => some ([], .bool (decide (x ≠ y)))
  | .lss => some ([], .bool (decide (x < y)))
  | .leq => some ([], .bool (decide (x ≤ y)))
  | .gtr => some ([], .bool (decide (y < x)))
  | .geq => some ([], .bool (decide (y ≤ x)))
  | _ => none
/-- A shift. -/
def intShift (op : BinOp) (k : IntKind) (x y : Int) : Option (List Prop × V1) :=
  match op with
  | .shl => some ([0 ≤ y, y ≤ (k.bits : Int), inR k (x * 2 ^ y.toNat)], .int k (x * 2 ^ y.toNat))
  | .shr => some ([0 ≤ y, y ≤ (k.bits : Int)], .int k (x / 2 ^ y.toNat))
  | _ => none

theorem intBin_sound {P : Program} {M : Mem} {op : BinOp} {t : TypeId} {k : IntKind} {x y : Int} {cs : List Prop} {v : V1} (h : intBin op k x y = some (cs, v)) (hc : AllP cs) (w : World) :
    ∃ u, (binOp op t (.int k x) (.int k y)).run P w = .ok u w ∧ VR M v u := by
  cases op <;> simp only [intBin] at h <;> first | (cases h; done) | skip
  all_goals
    simp only [Option.some.injEq, Prod.mk.injEq] at h
    obtain ⟨rfl, rfl⟩ := h
  case add => exact ⟨_, by simp only [binOp_add, Op.intArith]; rfl, congrArg (Value.int k) (wrap_in hc.1)⟩
  case sub => exact ⟨_, by simp only [binOp_sub, Op.intArith]; rfl, congrArg (Value.int k) (wrap_in hc.1)⟩
  case mul => exact ⟨_, by simp only [binOp_mul, Op.intArith]; rfl, congrArg (Value.int k) (wrap_in hc.1)⟩
  case quo => exact ⟨_, by simp only [binOp_quo, Op.intDiv, if_neg hc.1]; rfl, congrArg (Value.int k) (wrap_in hc.2.1)⟩
  case rem => exact ⟨_, by simp only [binOp_rem, Op.intDiv, if_neg hc.1]; rfl, rfl⟩
  case and =>
    refine ⟨_, by simp only [binOp_and, Op.intBits]; rfl, congrArg (Value.int k) ?_⟩
    rw [BitVec.toNat_and, ofInt_nat hc.1, ofInt_nat hc.2.1]
    exact wrap_nat (and_lt (nnR_lt hc.1))
  case or =>
    refine ⟨_, by simp only [binOp_or, Op.intBits]; rfl, congrArg (Value.int k) ?_⟩
    rw [BitVec.toNat_or, ofInt_nat hc.1, ofInt_nat hc.2.1]
    exact wrap_nat (or_lt (nnR_lt hc.1) (nnR_lt hc.2.1))
  case xor =>
    refine ⟨_, by simp only [binOp_xor, Op.intBits]; rfl, congrArg (Value.int k) ?_⟩
    rw [BitVec.toNat_xor, ofInt_nat hc.1, ofInt_nat hc.2.1]
    exact wrap_nat (xor_lt (nnR_lt hc.1) (nnR_lt hc.2.1))
  case andNot =>
    refine ⟨_, by simp only [binOp_andNot, Op.intBits]; rfl, congrArg (Value.int k) ?_⟩
    rw [xor_and_not, BitVec.toNat_xor, BitVec.toNat_and, ofInt_nat hc.1, ofInt_nat hc.2.1]
    exact wrap_nat (xor_lt (nnR_lt hc.1) (and_lt (nnR_lt hc.1)))
  case eql => exact ⟨_, by simp only [binOp_eql]; rfl, rfl⟩
  case neq => exact ⟨_, by simp only [binOp_neq]; rfl, by simp only [VR, VM, VF, VB, bne]; by_cases hxy : x = y <;> simp [hxy]⟩
  case lss => exact ⟨_, by simp only [binOp_lss]; rfl, rfl⟩
  case leq => exact ⟨_, by simp only [binOp_leq]; rfl, rfl⟩
  case gtr => exact ⟨_, by simp only [binOp_gtr]; rfl, rfl⟩
  case geq => exact ⟨_, by simp only [binOp_geq]; rfl, rfl⟩

theorem intShift_sound {P : Program} {M : Mem} {op : BinOp} {t : TypeId} {k k' : IntKind} {x y : Int} {cs : List Prop} {v : V1} (h : intShift op k x y = some (cs, v)) (hc : AllP cs) (w : World) :
    ∃ u, (binOp op t (.int k x) (.int k' y)).run P w = .ok u w ∧ VR M v u := by
  cases op <;> simp only [intShift] at h <;> first | (cases h; done) | skip
  all_goals
    simp only [Option.some.injEq, Prod.mk.injEq] at h
    obtain ⟨rfl, rfl⟩ := h
  case shl => exact ⟨_, by rw [binOp_shl, shift_shl k k' x y hc.1 hc.2.1]; rfl, congrArg (Value.int k) (wrap_in hc.2.2.1)⟩
  case shr => exact ⟨_, by rw [binOp_shr, shift_shr k k' x y hc.1 hc.2.1]; rfl, rfl⟩

end Go.Ab
