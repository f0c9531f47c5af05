/- Of the first of a list: the plain laws. -/
import Derived.Test.YteccjcionjkllaaPl1
namespace Go.Ab
/-- The first place where a test holds, or -1. -/
def idxOf {α : Type} (p : α → Bool) : List α → Int
  | [] => -1
  | x :: r => if p x then 0 else if idxOf p r < 0 then -1 else idxOf p r + 1
theorem idxOf_ge {α : Type} {p : α → Bool} : ∀ {l : List α}, -1 ≤ idxOf p l ∧ idxOf p l < l.length
  | [] => by simp [idxOf]
  | x :: r => by
    have := idxOf_ge (p := p) (l := r)
    simp only [idxOf, List.length_cons]
    split
    · omega
    · split <;> omega
theorem idxOf_at {α : Type} {p : α → Bool} {d : α} : ∀ {l : List α} {i : Nat}, (∀ j, j < i → p (l.getD j d) = false) → i < l.length → p (l.getD i d) = true → idxOf p l = i
  | [], _, _, h, _ => by simp at h
  | x :: r, 0, _, _, h => by
    simp only [List.getD_cons_zero] at h
    simp only [idxOf, h, if_true]; rfl
  | x :: r, i + 1, h, hi, ht => by
    have h0 := h 0 (by omega)
    simp only [List.getD_cons_zero] at h0
    have hr := idxOf_at (p := p) (d := d) (l := r) (i := i) (fun j hj => by simpa using h (j + 1) (by omega)) (by simpa using hi) (by simpa using ht)
    simp only [idxOf, h0, hr]
    rw [if_neg (by simp), if_neg (by omega)]; omega
theorem idxOf_none {α : Type} {p : α → Bool} {d : α} : ∀ {l : List α}, (∀ j, j < l.length → p (l.getD j d) = false) → idxOf p l = -1
  | [], _ => rfl
  | x :: r, h => by
    have h0 := h 0 (by simp)
    simp only [List.getD_cons_zero] at h0
    have hr := idxOf_none (p := p) (d := d) (l := r) (fun j hj => by simpa using h (j + 1) (by simpa using hj))
    simp only [idxOf, h0, hr]; rfl
theorem any_idx {α : Type} {p : α → Bool} : ∀ {l : List α}, (decide ((0 : Int) ≤ idxOf p l)) = l.any p
  | [] => by simp [idxOf]
  | x :: r => by
    have hr := any_idx (p := p) (l := r)
    have hg := idxOf_ge (p := p) (l := r)
    rw [List.any_cons, ← hr, Bool.eq_iff_iff, decide_eq_true_iff, Bool.or_eq_true, decide_eq_true_iff]
    rw [show idxOf p (x :: r) = (if p x = true then 0 else if idxOf p r < 0 then -1 else idxOf p r + 1) from rfl]
    by_cases hx : p x = true
    · rw [if_pos hx]; simp [hx]
    · rw [if_neg hx]
      constructor
      · intro h; right; split at h <;> omega
      · rintro (h | h)
        · exact absurd h hx
        · split <;> omega
theorem any_at {α : Type} {p : α → Bool} {l : List α} {d : α} {i : Nat} (hi : i < l.length) (h : p (l.getD i d) = true) : l.any p = true := List.any_eq_true.2 ⟨_, getD_mem hi, h⟩
theorem any_none {α : Type} {p : α → Bool} {l : List α} {d : α} (h : ∀ j, j < l.length → p (l.getD j d) = false) : l.any p = false := by
  rw [Bool.eq_false_iff]
  intro h1
  obtain ⟨x, hx, hp⟩ := List.any_eq_true.1 h1
  obtain ⟨k, hk, rfl⟩ := List.getElem_of_mem hx
  have := h k hk
  rw [getD_lt l d k hk] at this
  rw [this] at hp; cases hp
theorem any_no {α : Type} {p : α → Bool} {l : List α} (h : l.any p = false) : ∀ x ∈ l, p x = false := fun x hx => by
  cases e : p x
  · rfl
  · rw [List.any_eq_true.2 ⟨x, hx, e⟩] at h; cases h
end Go.Ab
