/- The abstract machine, part 13: calls. -/
import Derived.Test.YtdglhalkilneaaaAb12
namespace Go.Ab

/-! ### Numbers of the callee and of the caller -/
def backN : List (Nat × Nat) → Nat → Option Nat
  | [], _ => none
  | (x, y) :: r, z => cond (Nat.beq y z) (some x) (backN r z)
def isN : Option Nat → Nat → Bool
  | some x, y => Nat.beq x y
  | none, _ => false
theorem isN_some {o : Option Nat} {y : Nat} (h : isN o y = true) : o = some y := by
  cases o with
  | none => cases h
  | some x => rw [Nat.eq_of_beq_eq_true h]
def okR (ρ : List (Nat × Nat)) : Bool := ρ.all fun p => isN (backN ρ p.2) p.1 && isN (look p.1 ρ) p.2
theorem mem_of_look {α : Type} {x : Nat} {v : α} : ∀ {l : List (Nat × α)}, look x l = some v → (x, v) ∈ l
  | [], h => by cases h
  | (k, u) :: r, h => by
    unfold look at h
    cases hb : Nat.beq k x
    · rw [hb] at h; exact List.mem_cons_of_mem _ (mem_of_look h)
    · rw [hb] at h
      obtain rfl := Nat.eq_of_beq_eq_true hb
      cases h
      exact List.mem_cons_self
theorem mem_of_back {x z : Nat} : ∀ {ρ : List (Nat × Nat)}, backN ρ z = some x → (x, z) ∈ ρ
  | [], h => by cases h
  | (k, u) :: r, h => by
    unfold backN at h
    cases hb : Nat.beq u z
    · rw [hb] at h; exact List.mem_cons_of_mem _ (mem_of_back h)
    · rw [hb] at h
      obtain rfl := Nat.eq_of_beq_eq_true hb
      cases h
      exact List.mem_cons_self
theorem okR_back {ρ : List (Nat × Nat)} (h : okR ρ = true) {x y : Nat} (hl : look x ρ = some y) : backN ρ y = some x := by
  have := List.all_eq_true.1 h _ (mem_of_look hl)
  simp only [Bool.and_eq_true] at this
  exact isN_some this.1
theorem okR_look {ρ : List (Nat × Nat)} (h : okR ρ = true) {x y : Nat} (hl : backN ρ y = some x) : look x ρ = some y := by
  have := List.all_eq_true.1 h _ (mem_of_back hl)
  simp only [Bool.and_eq_true] at this
  exact isN_some this.2

/-! ### What the callee sees -/
def inV (ρ : List (Nat × Nat)) (H : Heap) (lent : Bool) : V1 → V1
  | .rw id off len =>
    (match backN ρ id with
    | some x => .rw x off len
    | none => cond lent (match look id H with
      | some (.flat c) => .ro (c.sub off (nadd off len))
      | some (.recs c) => .rs (c.sub off (nadd off len))
      | _ => .any) .any)
  | .ptr id i j => (match backN ρ id with | some x => .ptr x i j | none => .any)
  | v => v
def inH (H : Heap) (f : V1 → V1) : List (Nat × Nat) → Option Heap
  | [] => some []
  | (x, y) :: r =>
    (match look y H, inH H f r with
    | some o, some h => some ((x, liftO f o) :: h)
    | _, _ => none)
theorem inV_low (ρ : List (Nat × Nat)) (H : Heap) (lent : Bool) (v : V1) (h : v.low = true) (_ : noFn v = true) : inV ρ H lent v = v := by cases v <;> first | rfl | cases h
theorem inH_look {H : Heap} {f : V1 → V1} : ∀ {ρ : List (Nat × Nat)} {h : Heap}, inH H f ρ = some h → ∀ x o', look x h = some o' ↔ ∃ y o, look x ρ = some y ∧ look y H = some o ∧ o' = liftO f o
  | [], h, e, x, o' => by
    simp only [inH, Option.some.injEq] at e
    subst e
    simp [look]
  | (k, y) :: r, h, e, x, o' => by
    unfold inH at e
    split at e
    · rename_i o h1 ho hr
      simp only [Option.some.injEq] at e
      subst e
      have ih := inH_look hr x o'
      cases hb : Nat.beq k x
      · simp only [look, hb, cond_false]; exact ih
      · simp only [look, hb, cond_true, Option.some.injEq]
        constructor
        · rintro rfl; exact ⟨y, o, rfl, ho, rfl⟩
        · rintro ⟨y', o1, rfl, h2, rfl⟩
          rw [ho] at h2; cases h2; rfl
    · cases e
theorem inH_has {H : Heap} {f : V1 → V1} : ∀ {ρ : List (Nat × Nat)} {h : Heap}, inH H f ρ = some h → ∀ x y, look x ρ = some y → ∃ o, look y H = some o
  | [], _, _, _, _, hl => by cases hl
  | (k, z) :: r, h, e, x, y, hl => by
    unfold inH at e
    split at e
    · rename_i o h1 ho hr
      cases hb : Nat.beq k x
      · simp only [look, hb, cond_false] at hl; exact inH_has hr x y hl
      · simp only [look, hb, cond_true, Option.some.injEq] at hl
        subst hl; exact ⟨o, ho⟩
    · cases e

/-! ### What the caller gets back -/
def outV (ρ : List (Nat × Nat)) (lent : Bool) : V1 → V1
  | .rw x off len => (match look x ρ with | some y => .rw y off len | none => .any)
  | .ptr x i j => (match look x ρ with | some y => .ptr y i j | none => .any)
  | .ro c => cond lent .any (.ro c)
  | .rp c i j => cond lent .any (.rp c i j)
  | .rs c => cond lent .any (.rs c)
  | .rq c i j => cond lent .any (.rq c i j)
  | v => v
def lentOk (lent : Bool) : Obj → Bool
  | .recs _ => !lent
  | _ => true
def outH (H1 : Heap) (lent : Bool) (g : V1 → V1) : List (Nat × Nat) → Heap → Option Heap
  | [], acc => some acc
  | (x, y) :: r, acc =>
    (match look x H1, outH H1 lent g r acc with
    | some o, some h => cond (lentOk lent o) (some (ins y (liftO g o) h)) none
    | _, _ => none)
theorem outH_look {H1 : Heap} {lent : Bool} {g : V1 → V1} : ∀ {ρ : List (Nat × Nat)} {acc h : Heap}, outH H1 lent g ρ acc = some h →
    ∀ z, (∀ x, backN ρ z = some x → ∃ o, look x H1 = some o ∧ lentOk lent o = true ∧ look z h = some (liftO g o)) ∧ (backN ρ z = none → look z h = look z acc)
  | [], acc, h, e, z => by
    simp only [outH, Option.some.injEq] at e
    subst e
    exact ⟨fun x hx => by (cases hx), fun _ => rfl⟩
  | (k, y) :: r, acc, h, e, z => by
    unfold outH at e
    split at e
    · rename_i o h1 ho hr
      cases hk : lentOk lent o
      · rw [hk] at e; cases e
      · rw [hk] at e
        simp only [cond_true, Option.some.injEq] at e
        subst e
        have ih := outH_look hr z
        unfold backN
        by_cases hb : y = z
        · subst hb
          simp only [beq_self, cond_true, look_ins]
          exact ⟨fun x hx => by (cases hx; exact ⟨o, ho, hk, by simp⟩), fun h => by (cases h)⟩
        · simp only [beq_ne hb, cond_false, look_ins, if_neg (Ne.symm hb)]
          exact ih
    · cases e

theorem roSl_map {M M' : Mem} {len sz : Nat} {C C' : Nat → Nat → Value → Prop} {v : Value} (h : M.roSl len sz C v) (hr : ∀ b off, 0 < len → M.rowAt len sz C b off → M'.rowAt len sz C' b off) : M'.roSl len sz C' v := by
  obtain ⟨A, cap, rfl, h1, h2, h3⟩ := h
  refine ⟨A, cap, rfl, h1, h2, ?_⟩
  rcases h3 with h3 | ⟨b, off, rfl, h4⟩
  · exact .inl h3
  · rcases Nat.eq_zero_or_pos len with h0 | h0
    · exact .inl h0
    · exact .inr ⟨b, off, rfl, hr b off h0 h4⟩

/-- The callee's memory. -/
def callMem (M : Mem) (ρ : List (Nat × Nat)) (lent : Bool) (Hin : Heap) : Mem :=
  ⟨fun x => (look x ρ).bind M.μ, Hin, M.w, fun b => M.free b ∨ (lent = true ∧ M.live b ∧ ∀ x y p, look x ρ = some y → M.μ y ≠ some (b, p))⟩

section
variable {M : Mem} {ρ : List (Nat × Nat)} {lent : Bool} {Hin : Heap}

theorem callMem_live (hi : inH M.H (inV ρ M.H lent) ρ = some Hin) {b : Nat} : (callMem M ρ lent Hin).live b ↔ ∃ x y o p, look x ρ = some y ∧ look y M.H = some o ∧ M.μ y = some (b, p) := by
  constructor
  · rintro ⟨x, o', p, h1, h2⟩
    obtain ⟨y, o, h3, h4, _⟩ := (inH_look hi x o').1 h1
    have h2' : (look x ρ).bind M.μ = some (b, p) := h2
    rw [h3] at h2'
    exact ⟨x, y, o, p, h3, h4, h2'⟩
  · rintro ⟨x, y, o, p, h1, h2, h3⟩
    refine ⟨x, _, p, (inH_look hi x _).2 ⟨y, o, h1, h2, rfl⟩, ?_⟩
    show (look x ρ).bind M.μ = some (b, p)
    rw [h1]; exact h3

theorem live_lt (hM : MOk M) {b : Nat} (h : M.live b) : b < M.w.heap.size := by
  obtain ⟨x, o, p, h1, h2⟩ := h
  obtain ⟨cur, e, g1, _⟩ := hM.obj x o b p h1 h2
  exact (Array.getElem?_eq_some_iff.1 g1).1

theorem callMem_keep (_hM : MOk M) (hi : inH M.H (inV ρ M.H lent) ρ = some Hin) : Keep M (callMem M ρ lent Hin) := by
  refine ⟨rfl, rfl, rfl, Nat.le_refl _, fun b _ hl => ⟨rfl, fun h => hl ?_⟩, fun b h => .inl h, fun b h => ?_⟩
  · obtain ⟨x, y, o, p, _, h2, h3⟩ := (callMem_live hi).1 h
    exact ⟨y, o, p, h2, h3⟩
  · rcases h with h | ⟨_, h, _⟩
    · exact .inl h
    · exact .inr (.inl h)

theorem lent_row (hM : MOk M) (hi : inH M.H (inV ρ M.H lent) ρ = some Hin) (hR : okR ρ = true) (hlent : lent = true) {id : Nat} {o : Obj} {b p : Nat} (ho : look id M.H = some o) (hm : M.μ id = some (b, p)) (hb : backN ρ id = none) :
    (callMem M ρ lent Hin).rowAt o.len o.sz (fun i j u => VR M (o.cell i j) u) b p := by
  have hnot : ∀ x y q, look x ρ = some y → M.μ y ≠ some (b, q) := by
    intro x y q hl hy
    obtain ⟨o1, h1⟩ := inH_has hi x y hl
    have := hM.inj id y o o1 b p q ho h1 hm hy
    subst this
    rw [okR_back hR hl] at hb
    cases hb
  obtain ⟨cur, e, g1, g2, g3⟩ := hM.obj id o b p ho hm
  refine ⟨⟨.inr ⟨hlent, ⟨id, o, p, ho, hm⟩, hnot⟩, fun h => ?_⟩, fun i hi j hj => ?_⟩
  · obtain ⟨x, y, o1, q, h1, h2, h3⟩ := (callMem_live hi).1 h
    exact hnot x y q h1 h3
  · obtain ⟨u, k1, k2, k3⟩ := g3 i hi j hj
    exact ⟨u, (cell_of_row _ _ _ _ _ _ g1).trans k1, k3⟩

theorem callMem_turns (hM : MOk M) (hi : inH M.H (inV ρ M.H lent) ρ = some Hin) (hR : okR ρ = true) : Turns (inV ρ M.H lent) M (callMem M ρ lent Hin) := by
  have hkeep := callMem_keep (lent := lent) hM hi
  intro v u hn hv
  have hnf : noFn (inV ρ M.H lent v) = true := by
    cases v <;> first | rfl | (cases hn; done) | skip
    · simp only [inV]; split <;> rfl
    · simp only [inV]
      split
      · rfl
      · cases lent
        · rfl
        · simp only [cond_true]; split <;> rfl
  refine ⟨hnf, ?_⟩
  by_cases hlow : v.low = true
  · rw [inV_low ρ M.H lent v hlow hn, VM_low hlow]
    rw [VM_low hlow] at hv
    exact VF_keep hkeep hv
  · cases v <;> first | exact absurd rfl hlow | skip
    case ptr id i j =>
      have h1 := VM_oneCell hv
      simp only [inV]
      split
      · rename_i x hx
        clear h1
        obtain ⟨o, b, p, h1, h2, rfl⟩ := hv
        have hl := okR_look hR hx
        refine ⟨_, b, p, (inH_look hi x _).2 ⟨id, o, hl, h1, rfl⟩, ?_, by rw [liftO_sz]⟩
        show (look x ρ).bind M.μ = _
        rw [hl]; exact h2
      · exact h1
    case rw id off len =>
      have h1 := VM_oneCell hv
      simp only [inV]
      split
      · rename_i x hx
        obtain ⟨o, h1, h2, h3⟩ := hv
        have hl := okR_look hR hx
        refine ⟨_, (inH_look hi x _).2 ⟨id, o, hl, h1, rfl⟩, by rw [liftO_len]; exact h2, ?_⟩
        rw [liftO_sz, show (callMem M ρ lent Hin).μ x = M.μ id from by show (look x ρ).bind M.μ = _; rw [hl]; rfl]
        exact h3
      · rename_i hx
        cases hlent : lent
        · exact h1
        · simp only [cond_true]
          rw [← hlent]
          obtain ⟨o, ho, h2, h3⟩ := hv
          rw [ho]
          cases o with
          | flat c =>
            simp only [nadd_eq]
            have hlen := C0.sub_len c off (off + len) h2
            have e1 : off + len - off = len := by omega
            rw [e1] at hlen
            show (callMem M ρ lent Hin).roSl (c.sub off (off + len)).len (c.sub off (off + len)).sz _ u
            rw [hlen, C0.sub_sz]
            rcases h3 with ⟨h3, A, rfl⟩ | ⟨b, p, a, cap, hm, rfl, k1, k2, k3, _⟩
            · subst h3
              exact ⟨A, 0, rfl, Nat.le_refl _, Nat.zero_le _, .inl rfl⟩
            · refine roSl_sub (lent_row hM hi hR hlent ho hm hx) k3 h2 k1 k2 fun i j u hi hu => ?_
              simp only [C0.sub_cell c off (off + len) i j (by omega)]
              exact C0_cell_back hu
          | recs c =>
            simp only [nadd_eq]
            have hlen := C1.sub_len c off (off + len) h2
            have e1 : off + len - off = len := by omega
            rw [e1] at hlen
            show (callMem M ρ lent Hin).roSl (c.sub off (off + len)).len (c.sub off (off + len)).sz _ u
            rw [hlen, C1.sub_sz]
            rcases h3 with ⟨h3, A, rfl⟩ | ⟨b, p, a, cap, hm, rfl, k1, k2, k3, _⟩
            · subst h3
              exact ⟨A, 0, rfl, Nat.le_refl _, Nat.zero_le _, .inl rfl⟩
            · refine roSl_sub (lent_row hM hi hR hlent ho hm hx) k3 h2 k1 k2 fun i j u hi hu => ?_
              simp only [C1.sub_cell c off (off + len) i j (by omega)]
              exact VF_keep hkeep (C1_cell_back hu)
          | box n sz vs => exact h1
    case rs c => exact roSl_mono hkeep c.sz_pos (fun _ _ _ h => VF_keep hkeep h) hv
    case rq c i j => exact roPt_mono hkeep (fun _ _ _ h => VF_keep hkeep h) hv

theorem callMem_ok (hM : MOk M) (hi : inH M.H (inV ρ M.H lent) ρ = some Hin) (hR : okR ρ = true) : MOk (callMem M ρ lent Hin) := by
  have hμ : ∀ x y, look x ρ = some y → (callMem M ρ lent Hin).μ x = M.μ y := by
    intro x y h
    show (look x ρ).bind M.μ = _
    rw [h]; rfl
  refine ⟨fun b hb => ?_, fun x y o o' b p q hx hy hmx hmy => ?_, fun x o hx hm => ?_, fun x o b p hx hm => ?_⟩
  · rcases hb with hb | ⟨_, hb, hnot⟩
    · refine ⟨(hM.fr b hb).1, fun h => (hM.fr b hb).2 ?_⟩
      obtain ⟨x, y, o, p, _, h2, h3⟩ := (callMem_live hi).1 h
      exact ⟨y, o, p, h2, h3⟩
    · refine ⟨live_lt hM hb, fun h => ?_⟩
      obtain ⟨x, y, o, p, h1, _, h3⟩ := (callMem_live hi).1 h
      exact hnot x y p h1 h3
  · obtain ⟨x1, o1, h1, h2, _⟩ := (inH_look hi x o).1 hx
    obtain ⟨y1, o2, h3, h4, _⟩ := (inH_look hi y o').1 hy
    rw [hμ x x1 h1] at hmx
    rw [hμ y y1 h3] at hmy
    have := hM.inj x1 y1 o1 o2 b p q h2 h4 hmx hmy
    subst this
    have e1 := okR_back hR h1
    rw [okR_back hR h3] at e1
    exact (Option.some.inj e1).symm
  · obtain ⟨x1, o1, h1, h2, rfl⟩ := (inH_look hi x o).1 hx
    rw [liftO_len]
    rw [hμ x x1 h1] at hm
    exact hM.none_ x1 o1 h2 hm
  · obtain ⟨x1, o1, h1, h2, rfl⟩ := (inH_look hi x o).1 hx
    rw [hμ x x1 h1] at hm
    obtain ⟨cur, e, g1, g2, g3⟩ := hM.obj x1 o1 b p h2 hm
    refine ⟨cur, e, g1, by rw [liftO_len, liftO_sz]; exact g2, fun i hi' j hj => ?_⟩
    rw [liftO_len] at hi'
    rw [liftO_sz] at hj ⊢
    obtain ⟨u, k1, k2, k3⟩ := g3 i hi' j hj
    exact ⟨u, k1, k2, liftO_cell (callMem_turns hM hi hR) (inV_low ρ M.H lent) k3⟩
end

/-! ### Behind the call -/
/-- The numbers that are bound anew. -/
def newN (new : List (Nat × Nat)) (y : Nat) : Bool := (backN new y).isSome
def allBig : List (Nat × Nat) → Bool
  | [] => true
  | (_, y) :: r => big y && allBig r
def allSmall : List (Nat × Nat) → Bool
  | [] => true
  | (x, _) :: r => !(big x) && allSmall r
theorem newN_big {new : List (Nat × Nat)} (h : allBig new = true) {y : Nat} (hy : newN new y = true) : big y = true := by
  induction new with
  | nil => cases hy
  | cons p r ih =>
    obtain ⟨k, z⟩ := p
    simp only [allBig, Bool.and_eq_true] at h
    unfold newN backN at hy
    by_cases hb : z = y
    · subst hb; exact h.1
    · rw [beq_ne hb] at hy; exact ih h.2 hy
theorem small_of {ρ : List (Nat × Nat)} (h : allSmall ρ = true) {x y : Nat} (hm : (x, y) ∈ ρ) : big x = false := by
  induction ρ with
  | nil => cases hm
  | cons p r ih =>
    obtain ⟨k, z⟩ := p
    simp only [allSmall, Bool.and_eq_true, Bool.not_eq_true'] at h
    rcases List.mem_cons.1 hm with e | hm
    · cases e; exact h.1
    · exact ih h.2 hm

def outMem (M M1 : Mem) (ρ : List (Nat × Nat)) (H2 : Heap) : Mem :=
  ⟨fun z => (match backN ρ z with | some x => M1.μ x | none => M.μ z), H2, M1.w,
    fun b => M1.free b ∧ ¬ ∃ z o p, backN ρ z = none ∧ look z M.H = some o ∧ M.μ z = some (b, p)⟩

theorem back_app {ρ new : List (Nat × Nat)} {z : Nat} : backN (ρ ++ new) z = (match backN ρ z with | some x => some x | none => backN new z) := by
  induction ρ with
  | nil => rfl
  | cons p r ih =>
    obtain ⟨k, y⟩ := p
    show cond (Nat.beq y z) (some k) (backN (r ++ new) z) = (match cond (Nat.beq y z) (some k) (backN r z) with | some x => some x | none => backN new z)
    cases Nat.beq y z
    · exact ih
    · rfl

section
variable {M M1 : Mem} {ρ new : List (Nat × Nat)} {lent : Bool} {Hin H2 : Heap}

theorem outMem_all (hM : MOk M) (hi : inH M.H (inV ρ M.H lent) ρ = some Hin) (hR : okR (ρ ++ new) = true) (hRi : okR ρ = true) (hsm : allSmall ρ = true) (_hbig : allBig new = true) (hM1 : MOk M1) (he : Ext big (callMem M ρ lent Hin) M1)
    (ho : outH M1.H lent (outV (ρ ++ new) lent) (ρ ++ new) (mapV (clrO (newN new)) M.H) = some H2) :
    MOk (outMem M M1 (ρ ++ new) H2) ∧ Ext (newN new) M (outMem M M1 (ρ ++ new) H2) ∧ Turns (outV (ρ ++ new) lent) M1 (outMem M M1 (ρ ++ new) H2) := by
  let σ := ρ ++ new
  let M2 := outMem M M1 σ H2
  have hout := outH_look ho
  have hin1 : ∀ x y, look x ρ = some y → backN σ y = some x := by
    intro x y h
    show backN (ρ ++ new) y = _
    rw [back_app, okR_back hRi h]
  -- a hidden block
  have hidden : ∀ z o b p, backN σ z = none → look z M.H = some o → M.μ z = some (b, p) → b < M.w.heap.size ∧ ¬ (callMem M ρ lent Hin).live b := by
    intro z o b p hz h1 h2
    refine ⟨live_lt hM ⟨z, o, p, h1, h2⟩, fun h => ?_⟩
    obtain ⟨x, y, o1, q, k1, k2, k3⟩ := (callMem_live hi).1 h
    have := hM.inj z y o o1 b p q h1 k2 h2 k3
    subst this
    rw [hin1 x z k1] at hz
    cases hz
  have hstill : ∀ z o b p, backN σ z = none → look z M.H = some o → M.μ z = some (b, p) → M1.w.heap[b]? = M.w.heap[b]? ∧ ¬ M1.live b := by
    intro z o b p hz h1 h2
    obtain ⟨h3, h4⟩ := hidden z o b p hz h1 h2
    exact he.still b h3 h4
  have hμ1 : ∀ z x, backN σ z = some x → M2.μ z = M1.μ x := by
    intro z x h
    show (match backN σ z with | some x => M1.μ x | none => M.μ z) = _
    rw [h]
  have hμ0 : ∀ z, backN σ z = none → M2.μ z = M.μ z := by
    intro z h
    show (match backN σ z with | some x => M1.μ x | none => M.μ z) = _
    rw [h]
  have hl0 : ∀ z, backN σ z = none → look z M2.H = (look z M.H).map (clrO (newN new)) := by
    intro z h
    have := (hout z).2 h
    rw [look_mapV] at this
    exact this
  -- what lives
  have hlive : ∀ b, M2.live b → M1.live b ∨ ∃ z o p, backN σ z = none ∧ look z M.H = some o ∧ M.μ z = some (b, p) := by
    rintro b ⟨z, o, p, h1, h2⟩
    cases hz : backN σ z with
    | some x =>
      obtain ⟨o1, k1, _, _⟩ := (hout z).1 x hz
      exact .inl ⟨x, o1, p, k1, by rw [← hμ1 z x hz]; exact h2⟩
    | none =>
      rw [hl0 z hz, Option.map_eq_some_iff] at h1
      obtain ⟨o1, k1, _⟩ := h1
      exact .inr ⟨z, o1, p, hz, k1, by rw [← hμ0 z hz]; exact h2⟩
  have hck := callMem_keep (lent := lent) hM hi
  have hfr : ∀ b, M2.free b → ¬ M2.live b := by
    rintro b ⟨h1, h2⟩ h3
    rcases hlive b h3 with h4 | h4
    · exact (hM1.fr b h1).2 h4
    · exact h2 h4
  have hkeep : Keep M M2 := by
    refine ⟨he.os, he.tape, he.output, he.size, fun b hb hl => ?_, fun b hb => ?_, fun b hb => ?_⟩
    · have hl' : ¬ (callMem M ρ lent Hin).live b := (hck.still b hb hl).2
      obtain ⟨h1, h2⟩ := he.still b hb hl'
      refine ⟨h1, fun h => ?_⟩
      rcases hlive b h with h4 | ⟨z, o, p, _, k1, k2⟩
      · exact h2 h4
      · exact hl ⟨z, o, p, k1, k2⟩
    · exact ⟨he.free_ b (.inl hb), fun ⟨z, o, p, _, k1, k2⟩ => (hM.fr b hb).2 ⟨z, o, p, k1, k2⟩⟩
    · rcases he.only b hb.1 with h | h | h
      · exact hck.only b h
      · obtain ⟨x, y, o, p, _, h2, h3⟩ := (callMem_live hi).1 h
        exact .inr (.inl ⟨y, o, p, h2, h3⟩)
      · exact .inr (.inr h)
  have hext : Ext (newN new) M M2 := by
    refine ⟨hkeep, fun z o hX hz => ?_⟩
    cases hb : backN σ z with
    | some x =>
      have hx : look x ρ = some z := by
        have hb' : backN (ρ ++ new) z = some x := hb
        rw [back_app] at hb'
        cases hbr : backN ρ z with
        | some x' =>
          rw [hbr] at hb'
          cases hb'
          exact okR_look hRi hbr
        | none =>
          rw [hbr] at hb'
          simp only at hb'
          unfold newN at hX
          rw [hb'] at hX
          cases hX
      have hsx := small_of hsm (mem_of_look hx)
      obtain ⟨o1, k1, k2, k3, k4, k5⟩ := he.ids x _ hsx ((inH_look hi x _).2 ⟨z, o, hx, hz, rfl⟩)
      obtain ⟨o1', j1, _, j2⟩ := (hout z).1 x hb
      rw [k1] at j1; cases j1
      have hμc : (callMem M ρ lent Hin).μ x = M.μ z := by show (look x ρ).bind M.μ = _; rw [hx]; rfl
      refine ⟨_, j2, by rw [liftO_sz, k2, liftO_sz], by rw [liftO_len]; rw [liftO_len] at k3; exact k3, by rw [hμ1 z x hb, k4, hμc], fun b p cur e hm hc => k5 b p cur e (by rw [hμc]; exact hm) hc⟩
    | none =>
      refine ⟨clrO (newN new) o, by rw [hl0 z hb, hz]; rfl, clrO_sz _ _, by rw [clrO_len]; exact Nat.le_refl _, hμ0 z hb, fun b p cur e hm hc => ⟨cur, ?_, rfl⟩⟩
      exact (hstill z o b p hb hz hm).1.trans hc
  have hrow : lent = false → ∀ len sz (C C' : Nat → Nat → Value → Prop) b off, 0 < len → 0 < sz → (∀ i j u, C i j u → C' i j u) → M1.rowAt len sz C b off → M2.rowAt len sz C' b off := by
    intro hlent len sz C C' b off hlen hsz hC hr
    obtain ⟨⟨hf, hl⟩, hc⟩ := hr
    have hf2 : M2.free b := by
      refine ⟨hf, ?_⟩
      rintro ⟨z, o, p, hz, k1, k2⟩
      obtain ⟨h3, h4⟩ := hidden z o b p hz k1 k2
      rcases he.only b hf with h | h | h
      · rcases h with h | ⟨h, _⟩
        · exact (hM.fr b h).2 ⟨z, o, p, k1, k2⟩
        · rw [hlent] at h; cases h
      · exact h4 h
      · exact Nat.lt_irrefl _ (Nat.lt_of_lt_of_le h3 h)
    exact ⟨⟨hf2, hfr b hf2⟩, fun i hi j hj => (hc i hi j hj).imp fun u hu => ⟨hu.1, hC i j u hu.2⟩⟩
  have hVF : lent = false → ∀ v u, VF M1 v u → VF M2 v u := by
    intro hlent v u h
    cases v <;> simp only [VF] at h ⊢ <;> try exact h
    case ro c => exact roSl_map h fun b off h0 hr => hrow hlent _ _ _ _ b off h0 c.sz_pos (fun _ _ _ h => h) hr
    case rp c i j =>
      obtain ⟨h1, h2, b, off, rfl, hr⟩ := h
      exact ⟨h1, h2, b, off, rfl, hrow hlent _ _ _ _ b off (by omega) c.sz_pos (fun _ _ _ h => h) hr⟩
  have hturn : Turns (outV σ lent) M1 M2 := by
    intro v u hn hv
    have h1c := VM_oneCell hv
    have hnf : noFn (outV σ lent v) = true := by
      cases v <;> first | rfl | (cases hn; done) | skip
      · simp only [outV]; split <;> rfl
      · simp only [outV]; split <;> rfl
      all_goals (simp only [outV]; cases lent <;> rfl)
    refine ⟨hnf, ?_⟩
    cases v <;> first | exact hv | (cases hn; done) | skip
    case ptr x i j =>
      simp only [outV]
      split
      · rename_i y hy
        obtain ⟨o, b, p, h1, h2, rfl⟩ := hv
        have hb := okR_back hR hy
        obtain ⟨o1, j1, _, j2⟩ := (hout y).1 x hb
        rw [h1] at j1; cases j1
        exact ⟨_, b, p, j2, by rw [hμ1 y x hb]; exact h2, by rw [liftO_sz]⟩
      · exact h1c
    case rw x off len =>
      simp only [outV]
      split
      · rename_i y hy
        obtain ⟨o, h1, h2, h3⟩ := hv
        have hb := okR_back hR hy
        obtain ⟨o1, j1, _, j2⟩ := (hout y).1 x hb
        rw [h1] at j1; cases j1
        refine ⟨_, j2, by rw [liftO_len]; exact h2, ?_⟩
        rw [liftO_sz, hμ1 y x hb]
        exact h3
      · exact h1c
    case ro c =>
      simp only [outV]
      cases hlent : lent
      · exact hVF hlent (.ro c) _ hv
      · exact h1c
    case rp c i j =>
      simp only [outV]
      cases hlent : lent
      · exact hVF hlent (.rp c i j) _ hv
      · exact h1c
    case rs c =>
      simp only [outV]
      cases hlent : lent
      · exact roSl_map hv fun b off h0 hr => hrow hlent _ _ _ _ b off h0 c.sz_pos (fun i j u h => hVF hlent _ _ h) hr
      · exact h1c
    case rq c i j =>
      simp only [outV]
      cases hlent : lent
      · obtain ⟨h1, h2, b, off, rfl, hr⟩ := hv
        exact ⟨h1, h2, b, off, rfl, hrow hlent _ _ _ _ b off (by omega) c.sz_pos (fun i j u h => hVF hlent _ _ h) hr⟩
      · exact h1c
  refine ⟨⟨fun b hb => ⟨(hM1.fr b hb.1).1, hfr b hb⟩, fun z1 z2 o1 o2 b p q h1 h2 m1 m2 => ?_, fun z o hz hm => ?_, fun z o b p hz hm => ?_⟩, hext, hturn⟩
  · cases hz1 : backN σ z1 with
    | some x1 =>
      obtain ⟨a1, j1, _, _⟩ := (hout z1).1 x1 hz1
      rw [hμ1 z1 x1 hz1] at m1
      cases hz2 : backN σ z2 with
      | some x2 =>
        obtain ⟨a2, j2, _, _⟩ := (hout z2).1 x2 hz2
        rw [hμ1 z2 x2 hz2] at m2
        have := hM1.inj x1 x2 a1 a2 b p q j1 j2 m1 m2
        subst this
        have e1 := okR_look hR hz1
        rw [okR_look hR hz2] at e1
        exact (Option.some.inj e1).symm
      | none =>
        rw [hl0 z2 hz2, Option.map_eq_some_iff] at h2
        obtain ⟨a2, j2, _⟩ := h2
        rw [hμ0 z2 hz2] at m2
        exact absurd ⟨x1, a1, p, j1, m1⟩ (hstill z2 a2 b q hz2 j2 m2).2
    | none =>
      rw [hl0 z1 hz1, Option.map_eq_some_iff] at h1
      obtain ⟨a1, j1, _⟩ := h1
      rw [hμ0 z1 hz1] at m1
      cases hz2 : backN σ z2 with
      | some x2 =>
        obtain ⟨a2, j2, _, _⟩ := (hout z2).1 x2 hz2
        rw [hμ1 z2 x2 hz2] at m2
        exact absurd ⟨x2, a2, q, j2, m2⟩ (hstill z1 a1 b p hz1 j1 m1).2
      | none =>
        rw [hl0 z2 hz2, Option.map_eq_some_iff] at h2
        obtain ⟨a2, j2, _⟩ := h2
        rw [hμ0 z2 hz2] at m2
        exact hM.inj z1 z2 a1 a2 b p q j1 j2 m1 m2
  · cases hb : backN σ z with
    | some x =>
      obtain ⟨a1, j1, _, j2⟩ := (hout z).1 x hb
      have hz' : look z H2 = some o := hz
      rw [j2] at hz'; cases hz'
      rw [liftO_len]
      exact hM1.none_ x a1 j1 (by rw [← hμ1 z x hb]; exact hm)
    | none =>
      rw [hl0 z hb, Option.map_eq_some_iff] at hz
      obtain ⟨a1, j1, rfl⟩ := hz
      rw [clrO_len]
      exact hM.none_ z a1 j1 (by rw [← hμ0 z hb]; exact hm)
  · cases hb : backN σ z with
    | some x =>
      obtain ⟨a1, j1, hk, j2⟩ := (hout z).1 x hb
      have hz' : look z H2 = some o := hz
      rw [j2] at hz'; cases hz'
      rw [hμ1 z x hb] at hm
      obtain ⟨cur, e, g1, g2, g3⟩ := hM1.obj x a1 b p j1 hm
      refine ⟨cur, e, g1, by rw [liftO_len, liftO_sz]; exact g2, fun i hi' j hj => ?_⟩
      rw [liftO_len] at hi'
      rw [liftO_sz] at hj ⊢
      obtain ⟨u, k1, k2, k3⟩ := g3 i hi' j hj
      refine ⟨u, k1, k2, ?_⟩
      cases a1 with
      | flat c => exact C0_cell_VR (C0_cell_back k3)
      | recs c =>
        simp only [lentOk, Bool.not_eq_true'] at hk
        exact C1_cell_VR (hVF hk _ _ (C1_cell_back k3))
      | box n sz vs =>
        show VR M2 ((vs.map (liftV (outV σ lent))).getD (i * sz + j) .any) u
        have hi2 : VR M1 (vs.getD (i * sz + j) .any) u := k3
        simp only [List.getD_eq_getElem?_getD, List.getElem?_map] at hi2 ⊢
        cases hv : vs[i * sz + j]? with
        | none =>
          rw [hv] at hi2
          exact VR_oneCell hi2
        | some v =>
          rw [hv] at hi2
          exact VR_lift hturn hi2
    | none =>
      rw [hl0 z hb, Option.map_eq_some_iff] at hz
      obtain ⟨a1, j1, rfl⟩ := hz
      rw [hμ0 z hb] at hm
      obtain ⟨cur, e, g1, g2, g3⟩ := hM.obj z a1 b p j1 hm
      refine ⟨cur, e, (hstill z a1 b p hb j1 hm).1.trans g1, by rw [clrO_len, clrO_sz]; exact g2, fun i hi' j hj => ?_⟩
      rw [clrO_len] at hi'
      rw [clrO_sz] at hj ⊢
      obtain ⟨u, k1, k2, k3⟩ := g3 i hi' j hj
      refine ⟨u, k1, k2, ?_⟩
      rw [clrO_cell]
      exact VR_ext hext k3
end

end Go.Ab
