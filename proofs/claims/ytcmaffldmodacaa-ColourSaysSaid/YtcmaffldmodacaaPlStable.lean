/- Of pairs that stay: the plain laws. -/
import Derived.Test.YtcmaffldmodacaaPlA
namespace Go.Ab
def rk (l : List Int) (x : Int) : Int := idxOf (fun y => decide (x = y)) l
theorem rk_at {l : List Int} {x : Int} {i : Nat} (h : ∀ j, j < i → l.getD j 0 ≠ x) (hi : i < l.length) (hx : l.getD i 0 = x) : rk l x = i :=
  idxOf_at (d := 0) (fun j hj => decide_eq_false (fun q => h j hj q.symm)) hi (decide_eq_true hx.symm)
theorem rk_none {l : List Int} {x : Int} (h : ∀ j, j < l.length → l.getD j 0 ≠ x) : rk l x = -1 :=
  idxOf_none (d := 0) (fun j hj => decide_eq_false (fun q => h j hj q.symm))
theorem rk_mem {l : List Int} {x : Int} (h : x ∈ l) : ∃ i : Nat, rk l x = i ∧ i < l.length ∧ l.getD i 0 = x ∧ ∀ j, j < i → l.getD j 0 ≠ x := by
  induction l with
  | nil => cases h
  | cons y r ih =>
    by_cases q : y = x
    · exact ⟨0, rk_at (fun j hj => by omega) (by simp) (by simpa using q), by simp, by simpa using q, fun j hj => by omega⟩
    · have hr : x ∈ r := by
        rcases List.mem_cons.1 h with h | h
        · exact absurd h.symm q
        · exact h
      obtain ⟨i, h1, h2, h3, h4⟩ := ih hr
      have h5 : ∀ j, j < i + 1 → (y :: r).getD j 0 ≠ x := by
        intro j hj
        cases j with
        | zero => simpa using q
        | succ j => simpa using h4 j (by omega)
      exact ⟨i + 1, rk_at h5 (by simp; omega) (by simpa using h3), by simp; omega, by simpa using h3, h5⟩
theorem rk_in {l : List Int} {x : Int} (h : x ∈ l) : 0 ≤ rk l x ∧ rk l x < l.length ∧ l.getD (rk l x).toNat 0 = x := by
  obtain ⟨i, h1, h2, h3, _⟩ := rk_mem h
  rw [h1]
  exact ⟨by omega, by omega, by simpa using h3⟩
theorem mem_rk {l : List Int} {x : Int} : x ∈ l ↔ 0 ≤ rk l x := by
  constructor
  · intro h; exact (rk_in h).1
  · intro h
    rcases Classical.em (x ∈ l) with q | q
    · exact q
    · rw [rk_none (fun j hj e => q (by rw [← e]; exact getD_mem hj))] at h
      omega
structure Lists (a b : List (List Int)) : Prop where
  small : a.length ≤ 6
  len : b.length = a.length
  ra : ∀ i, i < a.length → isFull a.length (a.getD i [])
  rb : ∀ i, i < a.length → isFull a.length (b.getD i [])
def before (r : List Int) (x : Int) : List Int := r.take (rk r x).toNat
end Go.Ab
