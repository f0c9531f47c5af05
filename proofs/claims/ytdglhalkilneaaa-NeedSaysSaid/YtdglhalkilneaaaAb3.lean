/- The abstract machine, part 3: the operations that change no memory, in the abstract, and that the model's operations do just that. -/
import Derived.Test.YtdglhalkilneaaaAb2
namespace Go.Ab

def C0.sub : C0 → Nat → Nat → C0
  | .ints k xs, l, h => .ints k ((xs.take h).drop l)
  | .bools xs, l, h => .bools ((xs.take h).drop l)
  | .arcs xs, l, h => .arcs ((xs.take h).drop l)
  | .nds xs, l, h => .nds ((xs.take h).drop l)
  | .steps xs, l, h => .steps ((xs.take h).drop l)
  | .strs xs, l, h => .strs ((xs.take h).drop l)
def C1.sub : C1 → Nat → Nat → C1
  | .rows xs, l, h => .rows ((xs.take h).drop l)
  | .brows xs, l, h => .brows ((xs.take h).drop l)
  | .arows xs, l, h => .arows ((xs.take h).drop l)
  | .pieces xs, l, h => .pieces ((xs.take h).drop l)

theorem C0.sub_sz (c : C0) (l h : Nat) : (c.sub l h).sz = c.sz := by cases c <;> rfl
theorem C1.sub_sz (c : C1) (l h : Nat) : (c.sub l h).sz = c.sz := by cases c <;> rfl
theorem C0.sub_len (c : C0) (l h : Nat) (hh : h ≤ c.len) : (c.sub l h).len = h - l := by
  cases c <;> simp only [C0.sub, C0.len, List.length_drop, List.length_take] at * <;> omega
theorem C1.sub_len (c : C1) (l h : Nat) (hh : h ≤ c.len) : (c.sub l h).len = h - l := by
  cases c <;> simp only [C1.sub, C1.len, List.length_drop, List.length_take] at * <;> omega
theorem getD_sub {α : Type} (xs : List α) (d : α) (l h i : Nat) (hi : i < h - l) : ((xs.take h).drop l).getD i d = xs.getD (l + i) d := by
  simp only [List.getD_eq_getElem?_getD, List.getElem?_drop]
  rw [List.getElem?_take, if_pos (by omega)]
theorem C0.sub_cell (c : C0) (l h i j : Nat) (hi : i < h - l) : (c.sub l h).cell i j = c.cell (l + i) j := by
  cases c <;> simp only [C0.sub, C0.cell, getD_sub _ _ _ _ _ hi]
theorem C1.sub_cell (c : C1) (l h i j : Nat) (hi : i < h - l) : (c.sub l h).cell i j = c.cell (l + i) j := by
  cases c <;> simp only [C1.sub, C1.cell, getD_sub _ _ _ _ _ hi]

def noFn : V1 → Bool
  | .fn _ _ => false
  | _ => true
theorem VM_of_VR {M : Mem} {v : V1} {u : Value} (h : noFn v = true) (hv : VR M v u) : VM M v u := by
  cases v <;> first | exact hv | cases h
theorem VR_of_VM {M : Mem} {v : V1} {u : Value} (h : noFn v = true) (hv : VM M v u) : VR M v u := by
  cases v <;> first | exact hv | cases h

/-- The cells of a value. -/
def AV.cells : AV → Option (List V1)
  | .one v => some [v]
  | .agg vs => some vs
  | _ => none
def AV.v1 : AV → Option V1
  | .one v => some v
  | _ => none

theorem CellsR_cells {M : Mem} {x : AV} {vs : List V1} {u : Value} (h : AVR M x u) (hc : x.cells = some vs) : CellsR M vs u.cells := by
  cases x <;> simp only [AV.cells, Option.some.injEq] at hc <;> try (cases hc; done)
  · subst hc
    have h1 := VR_oneCell h
    have : u.cells = #[u] := by cases u <;> first | rfl | cases h1
    rw [this]
    refine ⟨by simp, fun i v hi => ?_⟩
    match i with
    | 0 => simp only [List.getElem?_cons_zero, Option.some.injEq] at hi; subst hi; exact ⟨u, by simp, h⟩
    | i + 1 => simp at hi
  · subst hc
    obtain ⟨cs, rfl, hc⟩ := h
    exact hc

/-! ### Filling a struct or an array -/
def fillA (place : Nat → Option (Nat × Nat)) (cells : List V1) : List (Nat × List V1) → Option (List V1)
  | [] => some cells
  | (i, vs) :: rest =>
    match place i with
    | none => none
    | some (off, size) =>
      cond (Nat.beq vs.length size && Nat.ble (off + vs.length) cells.length) (fillA place (cells.take off ++ vs ++ cells.drop (off + vs.length)) rest) none

theorem foldl_set (off : Nat) : ∀ (l : List Value) (k : Nat) (cs : Array Value) (i : Nat),
    ((l.zipIdx k).foldl (fun cs (p : Value × Nat) => cs.setIfInBounds (off + p.2) p.1) cs)[i]? =
      if off + k ≤ i ∧ i < off + k + l.length ∧ i < cs.size then l[i - (off + k)]? else cs[i]?
  | [], k, cs, i => by
    simp only [List.zipIdx_nil, List.foldl_nil, List.length_nil]
    rw [if_neg (by omega)]
  | v :: l, k, cs, i => by
    simp only [List.zipIdx_cons, List.foldl_cons]
    rw [foldl_set off l (k + 1)]
    simp only [Array.size_setIfInBounds, List.length_cons]
    by_cases h1 : i = off + k
    · subst h1
      rw [if_neg (by omega)]
      by_cases h2 : off + k < cs.size
      · rw [if_pos (by omega), Array.getElem?_setIfInBounds_self_of_lt h2]; simp
      · rw [if_neg (by omega), Array.getElem?_eq_none (by simp; omega), Array.getElem?_eq_none (by omega)]
    · by_cases h2 : off + k ≤ i ∧ i < off + k + (l.length + 1) ∧ i < cs.size
      · rw [if_pos (by omega), if_pos h2]
        have : i - (off + k) = (i - (off + (k + 1))) + 1 := by omega
        rw [this, List.getElem?_cons_succ]
      · rw [if_neg (by omega), if_neg h2, Array.getElem?_setIfInBounds, if_neg (by omega)]

theorem size_foldl_set (off : Nat) : ∀ (l : List Value) (k : Nat) (cs : Array Value),
    ((l.zipIdx k).foldl (fun cs (p : Value × Nat) => cs.setIfInBounds (off + p.2) p.1) cs).size = cs.size
  | [], _, _ => rfl
  | v :: l, k, cs => by
    simp only [List.zipIdx_cons, List.foldl_cons]
    rw [size_foldl_set off l]
    simp

theorem foldl_set_arr (off : Nat) (a : Array Value) (cs : Array Value) : a.zipIdx.foldl (fun cs (p : Value × Nat) => cs.setIfInBounds (off + p.2) p.1) cs =
    (a.toList.zipIdx 0).foldl (fun cs (p : Value × Nat) => cs.setIfInBounds (off + p.2) p.1) cs := by
  rw [← Array.foldl_toList, Array.toList_zipIdx]

theorem CellsR_fill {M : Mem} {off : Nat} {cells vs : List V1} {cs : Array Value} {u : Value} (h1 : CellsR M cells cs) (h2 : CellsR M vs u.cells) (hl : off + vs.length ≤ cells.length) :
    CellsR M (cells.take off ++ vs ++ cells.drop (off + vs.length)) (u.cells.zipIdx.foldl (fun cs (p : Value × Nat) => cs.setIfInBounds (off + p.2) p.1) cs) := by
  rw [foldl_set_arr]
  have hz : u.cells.toList.length = vs.length := by simpa using h2.1
  refine ⟨?_, fun i v hi => ?_⟩
  · rw [size_foldl_set, h1.1]
    simp only [List.length_append, List.length_take, List.length_drop]
    omega
  · rw [foldl_set]
    simp only [Nat.add_zero, hz, h1.1]
    by_cases ha : i < off
    · rw [if_neg (by omega)]
      rw [List.append_assoc, List.getElem?_append_left (by simp; omega), List.getElem?_take, if_pos ha] at hi
      exact h1.2 i v hi
    · by_cases hb : i < off + vs.length
      · rw [if_pos (by omega)]
        rw [List.append_assoc, List.getElem?_append_right (by simp; omega), List.getElem?_append_left (by simp; omega)] at hi
        have hlen : (cells.take off).length = off := by simp; omega
        rw [hlen] at hi
        obtain ⟨x, hx, hv⟩ := h2.2 _ v hi
        exact ⟨x, by simpa using hx, hv⟩
      · rw [if_neg (by omega)]
        have hlen : (cells.take off).length = off := by simp; omega
        rw [List.getElem?_append_right (by simp; omega), List.getElem?_drop] at hi
        simp only [List.length_append, hlen] at hi
        have : off + vs.length + (i - (off + vs.length)) = i := by omega
        rw [this] at hi
        exact h1.2 i v hi

theorem fill_sound {M : Mem} {place : Nat → Option (Nat × Nat)} : ∀ {ps : List (Nat × List V1)} {qs : List (Nat × Value)} {cells out : List V1} {cs : Array Value},
    fillA place cells ps = some out → CellsR M cells cs → ps.length = qs.length → (∀ (i : Nat) (p : Nat × List V1), ps[i]? = some p → ∃ q : Nat × Value, qs[i]? = some q ∧ q.1 = p.1 ∧ CellsR M p.2 q.2.cells) →
    ∃ r, Instr.fill place cs qs = some r ∧ CellsR M out r
  | [], [], cells, out, cs, h, hc, _, _ => by
    simp only [fillA, Option.some.injEq] at h
    subst h
    exact ⟨cs, rfl, hc⟩
  | [], _ :: _, _, _, _, _, _, hl, _ => by simp at hl
  | _ :: _, [], _, _, _, _, _, hl, _ => by simp at hl
  | (i, vs) :: ps, (i', u) :: qs, cells, out, cs, h, hc, hl, hp => by
    obtain ⟨q, hq, hq1, hq2⟩ := hp 0 (i, vs) rfl
    simp only [List.getElem?_cons_zero, Option.some.injEq] at hq
    subst hq
    simp only at hq1 hq2
    subst hq1
    unfold fillA at h
    unfold Instr.fill
    cases hpl : place i' with
    | none => rw [hpl] at h; cases h
    | some os =>
      obtain ⟨off, size⟩ := os
      rw [hpl] at h
      simp only at h ⊢
      cases hb : (Nat.beq vs.length size && Nat.ble (off + vs.length) cells.length)
      · rw [hb] at h; cases h
      · rw [hb] at h
        simp only [cond_true] at h
        simp only [Bool.and_eq_true] at hb
        have e1 : vs.length = size := Nat.eq_of_beq_eq_true hb.1
        have e2 : off + vs.length ≤ cells.length := Nat.le_of_ble_eq_true hb.2
        rw [if_neg (by
          have := hq2.1
          have := hc.1
          simp only [ne_eq, Bool.or_eq_true, decide_eq_true_eq, not_or, Decidable.not_not]
          omega)]
        refine fill_sound (M := M) h (CellsR_fill hc hq2 e2) (by simpa using hl) (fun k p hk => ?_)
        obtain ⟨q, hq, hr⟩ := hp (k + 1) p (by simpa using hk)
        exact ⟨q, by simpa using hq, hr⟩

theorem fill_size {place : Nat → Option (Nat × Nat)} : ∀ {qs : List (Nat × Value)} {cs r : Array Value}, Instr.fill place cs qs = some r → r.size = cs.size
  | [], cs, r, h => by
    simp only [Instr.fill, Option.some.injEq] at h
    rw [h]
  | (i, u) :: qs, cs, r, h => by
    unfold Instr.fill at h
    split at h
    · cases h
    · split at h
      · cases h
      · have := fill_size h
        rw [this, foldl_set_arr, size_foldl_set]

end Go.Ab
