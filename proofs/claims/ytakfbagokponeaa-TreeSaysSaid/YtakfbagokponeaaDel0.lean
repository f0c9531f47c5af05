/- Of slices: Delete of one element: what the contracts have in common. -/
import Derived.Test.YtakfbagokponeaaAbC
import Derived.Test.YtakfbagokponeaaPlA
import Derived.WalkKit
import Derived.Lib.SliceRun
import Derived.Laws.IdiomCopy
namespace Go.Ab
open Go Go.RowKit
/-! ### Cells of a block, written one behind the other -/
def wrC : Array Value → Nat → List Value → Array Value
  | c, _, [] => c
  | c, o, v :: r => wrC (c.setIfInBounds o v) (o + 1) r
theorem wrC_size : ∀ (vs : List Value) (c : Array Value) (o : Nat), (wrC c o vs).size = c.size
  | [], _, _ => rfl
  | v :: r, c, o => by rw [wrC, wrC_size]; simp
theorem wrC_at : ∀ (vs : List Value) (c : Array Value) (o k : Nat), o + vs.length ≤ c.size → (wrC c o vs)[k]? = if o ≤ k ∧ k < o + vs.length then vs[k - o]? else c[k]?
  | [], c, o, k, _ => by rw [wrC, if_neg (by rw [List.length_nil]; omega)]
  | v :: r, c, o, k, h => by
    rw [List.length_cons] at h
    rw [wrC, wrC_at r _ _ _ (by simp; omega)]
    by_cases e : k = o
    · subst e
      rw [if_neg (by omega), if_pos (by simp), Nat.sub_self, Array.getElem?_setIfInBounds_self_of_lt (by omega)]; rfl
    · by_cases q : o + 1 ≤ k ∧ k < o + 1 + r.length
      · rw [if_pos q, if_pos (by rw [List.length_cons]; omega), show k - o = (k - (o + 1)) + 1 by omega, List.getElem?_cons_succ]
      · rw [if_neg q, if_neg (by rw [List.length_cons]; omega), Array.getElem?_setIfInBounds_ne (by omega)]
structure WrS (b : Nat) (w w' : World) : Prop where
  os : w'.os = w.os
  tape : w'.tape = w.tape
  output : w'.output = w.output
  drawn : w'.drawn = w.drawn
  size : w'.heap.size = w.heap.size
  other : ∀ c, c ≠ b → w'.heap[c]? = w.heap[c]?
theorem wrS : ∀ (vs : List Value) (o : Nat) (w : World) (b : Nat), WrS b w (w.setCells b o vs)
  | [], _, _, _ => ⟨rfl, rfl, rfl, rfl, rfl, fun _ _ => rfl⟩
  | v :: r, o, w, b => by
    have h := wrS r (o + 1) (w.setCell ⟨b, o, none⟩ v) b
    refine ⟨h.os, h.tape, h.output, h.drawn, h.size.trans (by simp [World.setCell]), fun c hc => (h.other c hc).trans ?_⟩
    simp only [World.setCell, Array.getElem?_modify, if_neg (Ne.symm hc)]
theorem wr_heap {b : Nat} {e : TypeId} : ∀ (vs : List Value) (o : Nat) (w : World) (c : Array Value), w.heap[b]? = some (.cells c e (0, 0)) → (w.setCells b o vs).heap[b]? = some (.cells (wrC c o vs) e (0, 0))
  | [], _, _, _, h => h
  | v :: r, o, w, c, h => by
    refine wr_heap r (o + 1) _ (c.setIfInBounds o v) ?_
    simp [World.setCell, Array.getElem?_modify, h]
/-! ### The contract -/
theorem lkd_one {x : Nat} {c : C0} {k : Key} {o : Obj} (h : lk [(x, .flat c)] k = some o) : k = (x, none) ∧ o = .flat c := by
  obtain ⟨y, r⟩ := k
  cases r with
  | none =>
    simp only [lk, look] at h
    cases hb : Nat.beq x y
    · rw [hb] at h; cases h
    · rw [hb] at h; cases h
      exact ⟨by rw [Nat.eq_of_beq_eq_true hb], rfl⟩
  | some i =>
    simp only [lk, look] at h
    cases hb : Nat.beq x y
    · rw [hb] at h; cases h
    · rw [hb] at h
      simp only [cond_true] at h
      cases h
def shiftF (f : Nat → Nat → Int) (n i a j : Nat) : Int := if a < i then f a j else if a + 1 < n then f (a + 1) j else 0
def delA (es : List Arc) (i : Nat) : List Arc := es.take i ++ es.drop (i + 1) ++ [⟨0, 0, 0⟩]
theorem delA_len {es : List Arc} {i : Nat} (h : i < es.length) : (delA es i).length = es.length := by
  unfold delA; simp; omega
theorem delA_at {es : List Arc} {i : Nat} (h : i < es.length) (a : Nat) : (delA es i).getD a default = if a < i then es.getD a default else if a + 1 < es.length then es.getD (a + 1) default else default := by
  unfold delA
  simp only [List.getD_eq_getElem?_getD]
  by_cases q : a < i
  · rw [if_pos q, List.getElem?_append_left (by simp; omega), List.getElem?_append_left (by simp; omega), List.getElem?_take, if_pos q]
  · rw [if_neg q]
    by_cases q2 : a + 1 < es.length
    · rw [if_pos q2, List.getElem?_append_left (by simp; omega), List.getElem?_append_right (by simp; omega), List.length_take, List.getElem?_drop, show i + 1 + (a - min i es.length) = a + 1 by omega]
    · rw [if_neg q2, List.getElem?_append_right (by simp; omega)]
      cases hh : ([⟨0, 0, 0⟩] : List Arc)[a - (es.take i ++ es.drop (i + 1)).length]? with
      | none => rfl
      | some x =>
        have : a - (es.take i ++ es.drop (i + 1)).length = 0 := by
          have := (List.getElem?_eq_some_iff.1 hh).1
          simpa using this
        rw [this] at hh
        cases hh; rfl
end Go.Ab
