/- Of trees that are given by each node's node above: the plain laws. -/
import Derived.Test.YteccjcionjkllaaPl1
namespace Go.Ab
def treeOk (up : List Int) : Prop := ∀ k, k < up.length → 0 ≤ up.getD k 0 ∧ up.getD k 0 ≤ max 0 ((k : Int) - 1)
instance (up : List Int) : Decidable (treeOk up) := by unfold treeOk; infer_instance
def onErr (up w : List Int) (s t : Int) : Int :=
  if up.length < 1 ∨ 12 < up.length then 2 else if w.length ≠ up.length then 3 else if ¬ treeOk up then 3
  else if s < 0 ∨ (up.length : Int) ≤ s ∨ t < 0 ∨ (up.length : Int) ≤ t then 4 else if s = t then 3 else 0
/-- The weights on the way between two nodes. -/
def climb (up w : List Int) : Nat → Int → Int → List Int
  | 0, _, _ => []
  | n + 1, s, t => if s = t then [] else if t < s then w.getD s.toNat 0 :: climb up w n (up.getD s.toNat 0) t else w.getD t.toNat 0 :: climb up w n s (up.getD t.toNat 0)
def lowOf : Bool → Int → List Int → Int
  | _, m, [] => m
  | any, m, x :: r => if any = false ∨ x < m then lowOf true x r else lowOf any m r
def minOf : List Int → Int
  | [] => 0
  | x :: r => r.foldl min x
def onVal (up w : List Int) (s t : Int) : Int := if onErr up w s t = 0 then lowOf false 0 (climb up w (s + t).toNat s t) else 0

theorem climb_comm (up w : List Int) : ∀ n s t, climb up w n s t = climb up w n t s
  | 0, _, _ => rfl
  | n + 1, s, t => by
    unfold climb
    by_cases h : s = t
    · subst h; rfl
    · have h' : ¬ t = s := fun e => h e.symm
      simp only [if_neg h, if_neg h']
      by_cases h1 : t < s
      · have h2 : ¬ s < t := by omega
        simp only [if_pos h1, if_neg h2, climb_comm up w n]
      · have h2 : s < t := by omega
        simp only [if_neg h1, if_pos h2, climb_comm up w n]
theorem climb_gt {up w : List Int} {n : Nat} {s t : Int} (h : t < s) : climb up w (n + 1) s t = w.getD s.toNat 0 :: climb up w n (up.getD s.toNat 0) t := by
  simp only [climb]; rw [if_neg (by omega), if_pos h]
theorem climb_lt {up w : List Int} {n : Nat} {s t : Int} (h : s < t) : climb up w (n + 1) s t = w.getD t.toNat 0 :: climb up w n s (up.getD t.toNat 0) := by
  simp only [climb]; rw [if_neg (by omega), if_neg (by omega)]
theorem climb_self {up w : List Int} (n : Nat) (s : Int) : climb up w n s s = [] := by cases n <;> simp [climb]
theorem lowOf_true : ∀ (l : List Int) m, lowOf true m l = l.foldl min m
  | [], _ => rfl
  | x :: r, m => by
    simp only [lowOf, List.foldl]
    by_cases h : x < m
    · simp only [h, or_true, if_true]; rw [lowOf_true r x, show min m x = x from by omega]
    · simp only [h, or_false, Bool.true_eq_false, if_false]; rw [lowOf_true r m, show min m x = m from by omega]
theorem lowOf_min {l : List Int} : lowOf false 0 l = minOf l := by
  cases l with
  | nil => rfl
  | cons x r => simp only [lowOf, true_or, if_true, minOf]; exact lowOf_true r x
/-- A tree's node is above itself or greater than the one above it. -/
theorem treeOk.below {up : List Int} (h : treeOk up) {s : Int} (h0 : 0 ≤ s) (h1 : s < up.length) : 0 ≤ up.getD s.toNat 0 ∧ up.getD s.toNat 0 ≤ max 0 (s - 1) := by
  have := h s.toNat (by omega); omega
theorem onErr_ok {up w : List Int} {s t : Int} (h : onErr up w s t = 0) : (1 ≤ up.length ∧ up.length ≤ 12) ∧ w.length = up.length ∧ treeOk up ∧ 0 ≤ s ∧ s < up.length ∧ 0 ≤ t ∧ t < up.length ∧ s ≠ t := by
  unfold onErr at h
  split at h <;> try omega
  split at h <;> try omega
  split at h <;> try omega
  split at h <;> try omega
  split at h <;> try omega
  rename_i h1 h2 h3 h4 h5
  exact ⟨by omega, by omega, Decidable.not_not.1 h3, by omega, by omega, by omega, by omega, h5⟩
theorem climb_ne {up w : List Int} {s t : Int} (h : s ≠ t) (hs : 0 ≤ s) (ht : 0 ≤ t) : climb up w (s + t).toNat s t ≠ [] := by
  obtain ⟨n, hn⟩ : ∃ n, (s + t).toNat = n + 1 := ⟨(s + t).toNat - 1, by omega⟩
  rw [hn]
  rcases Int.lt_or_gt_of_ne h with h | h
  · rw [climb_lt h]; simp
  · rw [climb_gt h]; simp
end Go.Ab
