/- Of pairs that stay: the plain laws. -/
import Derived.Test.YtakfbagokponeaaPlA
namespace Go.Ab
def rk (l : List Int) (x : Int) : Int := idxOf (fun y => decide (x = y)) l
theorem rk_at {l : List Int} {x : Int} {i : Nat} (h : ∀ j, j < i → l.getD j 0 ≠ x) (hi : i < l.length) (hx : l.getD i 0 = x) : rk l x = i :=
  idxOf_at (d := 0) (fun j hj => decide_eq_false (fun q => h j hj q.symm)) hi (decide_eq_true hx.symm)
theorem rk_none {l : List Int} {x : Int} (h : ∀ j, j < l.length → l.getD j 0 ≠ x) : rk l x = -1 :=
  idxOf_none (d := 0) (fun j hj => decide_eq_false (fun q => h j hj q.symm))
theorem rk_mem {l : List Int} {x : Int} (h : x ∈ l) : ∃ i : Nat, rk l x = i ∧ i < l.length ∧ l.getD i 0 = x ∧ ∀ j, j < i → l.getD j 0 ≠ x := by
  induction l with
  | nil => cases h
  | cons y r ih =>
    by_cases q : y = x
    · exact ⟨0, rk_at (fun j hj => by omega) (by simp) (by simpa using q), by simp, by simpa using q, fun j hj => by omega⟩
    · have hr : x ∈ r := by
        rcases List.mem_cons.1 h with h | h
        · exact absurd h.symm q
        · exact h
      obtain ⟨i, h1, h2, h3, h4⟩ := ih hr
      have h5 : ∀ j, j < i + 1 → (y :: r).getD j 0 ≠ x := by
        intro j hj
        cases j with
        | zero => simpa using q
        | succ j => simpa using h4 j (by omega)
      exact ⟨i + 1, rk_at h5 (by simp; omega) (by simpa using h3), by simp; omega, by simpa using h3, h5⟩
theorem rk_in {l : List Int} {x : Int} (h : x ∈ l) : 0 ≤ rk l x ∧ rk l x < l.length ∧ l.getD (rk l x).toNat 0 = x := by
  obtain ⟨i, h1, h2, h3, _⟩ := rk_mem h
  rw [h1]
  exact ⟨by omega, by omega, by simpa using h3⟩
theorem mem_rk {l : List Int} {x : Int} : x ∈ l ↔ 0 ≤ rk l x := by
  constructor
  · intro h; exact (rk_in h).1
  · intro h
    rcases Classical.em (x ∈ l) with q | q
    · exact q
    · rw [rk_none (fun j hj e => q (by rw [← e]; exact getD_mem hj))] at h
      omega
/-! ### The lists of both sides -/
structure Lists (a b : List (List Int)) : Prop where
  small : a.length ≤ 6
  len : b.length = a.length
  ra : ∀ i, i < a.length → isFull a.length (a.getD i [])
  rb : ∀ i, i < a.length → isFull a.length (b.getD i [])
/-! ### Who would rather go -/
def blockAt (b : List (List Int)) (p : List Int) (i k : Int) : Bool := decide (rk (b.getD k.toNat []) i < rk (b.getD k.toNat []) (rk p k))
def rowFind (b : List (List Int)) (p : List Int) (i : Int) : List Int → Option Int
  | [] => none
  | k :: r => if blockAt b p i k = true then some k else rowFind b p i r
/-- Those whom a row would rather have. -/
def before (r : List Int) (x : Int) : List Int := r.take (rk r x).toNat
def partFrom (b : List (List Int)) (p : List Int) : Nat → List (List Int) → Option (Int × Int)
  | _, [] => none
  | i, r :: q => match rowFind b p i (before r (p.getD i 0)) with
    | some k => some ((i : Int), k)
    | none => partFrom b p (i + 1) q
def partOf (a b : List (List Int)) (p : List Int) : Option (Int × Int) := partFrom b p 0 a
theorem isFull.mem_ {n : Nat} {l : List Int} (h : isFull n l) {x : Int} (h0 : 0 ≤ x) (h1 : x < n) : x ∈ l := by
  have := h.2 x.toNat (by omega)
  rwa [Int.toNat_of_nonneg h0] at this
theorem getD_take {α : Type} (l : List α) (n j : Nat) {d : α} (h : j < n) : (l.take n).getD j d = l.getD j d := by
  simp only [List.getD_eq_getElem?_getD, List.getElem?_take, if_pos h]
end Go.Ab
