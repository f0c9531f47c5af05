/- Plain laws of lists. -/
import Derived.Test.YteccjcionjkllaaAbA
namespace Go.Ab
/-- What the tests of a walk come to: one bundle of rules. -/
theorem bs : (∀ a b : Bool, ((a || b) = true) = (a = true ∨ b = true)) ∧ (∀ a b : Bool, ((a && b) = true) = (a = true ∧ b = true)) ∧ (∀ a : Bool, ((!a) = true) = (a = false)) ∧
    (∀ (p : Prop) [Decidable p], (decide p = true) = p) ∧ (∀ a b : Bool, ((a || b) = false) = (a = false ∧ b = false)) ∧ (∀ a b : Bool, ((a && b) = false) = (a = false ∨ b = false)) ∧
    (∀ a : Bool, ((!a) = false) = (a = true)) ∧ (∀ (p : Prop) [Decidable p], (decide p = false) = ¬ p) ∧ ((!false) = true) ∧ ((!true) = false) :=
  ⟨fun a b => by simp, fun a b => by simp, fun a => by simp, fun p _ => by simp, fun a b => by simp, fun a b => by cases a <;> simp, fun a => by simp, fun p _ => by simp, rfl, rfl⟩
/-- Lengths: one bundle of rules. -/
theorem lens {α : Type} : (∀ a b : List α, (a ++ b).length = a.length + b.length) ∧ (∀ (x : α) (a : List α), (x :: a).length = a.length + 1) ∧ (([] : List α).length = 0) ∧
    (∀ (a : List α) i x, (a.set i x).length = a.length) ∧ (∀ n (x : α), (List.replicate n x).length = n) ∧ (∀ (a : List α) n, (a.drop n).length = a.length - n) :=
  ⟨fun _ _ => List.length_append, fun _ _ => rfl, rfl, fun _ _ _ => List.length_set, fun _ _ => List.length_replicate, fun _ _ => List.length_drop⟩
theorem getD_lt {α : Type} (xs : List α) (d : α) (i : Nat) (h : i < xs.length) : xs.getD i d = xs[i] := by simp [List.getD_eq_getElem?_getD, List.getElem?_eq_getElem h]
theorem getD_mem {α : Type} {xs : List α} {d : α} {i : Nat} (h : i < xs.length) : xs.getD i d ∈ xs := by rw [getD_lt xs d i h]; exact List.getElem_mem h
theorem getD_ge {α : Type} (xs : List α) (d : α) (i : Nat) (h : xs.length ≤ i) : xs.getD i d = d := by simp [List.getD_eq_getElem?_getD, List.getElem?_eq_none h]
theorem list_ext {α : Type} {xs ys : List α} (d : α) (hl : xs.length = ys.length) (h : ∀ i, i < xs.length → xs.getD i d = ys.getD i d) : xs = ys := by
  refine List.ext_getElem hl fun i h1 h2 => ?_
  have := h i h1
  rwa [getD_lt xs d i h1, getD_lt ys d i h2] at this
theorem drop_getD {α : Type} (xs : List α) (d : α) (i : Nat) (h : i < xs.length) : xs.drop i = xs.getD i d :: xs.drop (i + 1) := by
  rw [getD_lt xs d i h]; exact List.drop_eq_getElem_cons h
theorem take_getD {α : Type} (xs : List α) (d : α) (i : Nat) (h : i < xs.length) : xs.take (i + 1) = xs.take i ++ [xs.getD i d] := by
  rw [getD_lt xs d i h]; exact (List.take_append_getElem h).symm
theorem eq_no {α : Type} [DecidableEq α] {xs ys : List α} (h : ¬ xs = ys) : false = decide (xs = ys) := (decide_eq_false h).symm
theorem eq_yes {α : Type} [DecidableEq α] {xs ys : List α} (h : xs = ys) : true = decide (xs = ys) := (decide_eq_true h).symm
/-- A list that is filled, place by place. -/
theorem fill_set {α β : Type} (w : α → β) (l : List α) (d : α) (i : Nat) (hi : i < l.length) (z : β) : ((l.take i).map w ++ List.replicate (l.length - i) z).set i (w (l.getD i d)) = (l.take (i + 1)).map w ++ List.replicate (l.length - (i + 1)) z := by
  have h1 : ((l.take i).map w).length = i := by simp; omega
  have h2 : l.length - i = (l.length - (i + 1)) + 1 := by omega
  rw [List.set_append_right _ _ (by omega), h1, Nat.sub_self, h2, List.replicate_succ, List.set_cons_zero, take_getD l d i hi, List.map_append, List.append_assoc]
  rfl
theorem fill_skip {α β : Type} (w : α → β) (l : List α) (d : α) (i : Nat) (hi : i < l.length) (z : β) (h : w (l.getD i d) = z) : (l.take i).map w ++ List.replicate (l.length - i) z = (l.take (i + 1)).map w ++ List.replicate (l.length - (i + 1)) z := by
  have h2 : l.length - i = (l.length - (i + 1)) + 1 := by omega
  rw [h2, List.replicate_succ, take_getD l d i hi, List.map_append, List.append_assoc]
  simp only [List.map_cons, List.map_nil, List.singleton_append, h]
theorem flat_step {α : Type} (xss : List (List α)) (i : Nat) (hi : i < xss.length) : (xss.take (i + 1)).flatten = (xss.take i).flatten ++ xss.getD i [] := by
  rw [take_getD xss [] i hi, List.flatten_append]; simp
theorem flat_le {α : Type} (xss : List (List α)) (i : Nat) : (xss.take i).flatten.length ≤ xss.flatten.length := by
  conv => rhs; rw [← List.take_append_drop i xss, List.flatten_append, List.length_append]
  omega
theorem getD_set_self {α : Type} (l : List α) (i : Nat) (a d : α) (h : i < l.length) : (l.set i a).getD i d = a := by
  rw [List.getD_eq_getElem?_getD, List.getElem?_set_self h]; rfl
theorem getD_set_ne {α : Type} (l : List α) (i j : Nat) (a d : α) (h : i ≠ j) : (l.set i a).getD j d = l.getD j d := by
  rw [List.getD_eq_getElem?_getD, List.getElem?_set_ne h, ← List.getD_eq_getElem?_getD]
/-- A list that is turned in place. -/
theorem mid_get {α : Type} (w : α → α) (l : List α) (d : α) (i : Nat) (hi : i < l.length) : ((l.take i).map w ++ l.drop i).getD i d = l.getD i d := by
  have h1 : ((l.take i).map w).length = i := by simp; omega
  rw [List.getD_eq_getElem?_getD, List.getElem?_append_right (by omega), h1, Nat.sub_self, List.getElem?_drop, Nat.add_zero, List.getD_eq_getElem?_getD]
theorem mid_set {α : Type} (w : α → α) (l : List α) (d : α) (i : Nat) (hi : i < l.length) : ((l.take i).map w ++ l.drop i).set i (w (l.getD i d)) = (l.take (i + 1)).map w ++ l.drop (i + 1) := by
  have h1 : ((l.take i).map w).length = i := by simp; omega
  rw [List.set_append_right _ _ (by omega), h1, Nat.sub_self, drop_getD l d i hi, List.set_cons_zero, take_getD l d i hi, List.map_append, List.append_assoc]
  rfl
theorem mid_len {α : Type} (w : α → α) (l : List α) (i : Nat) (hi : i ≤ l.length) : ((l.take i).map w ++ l.drop i).length = l.length := by simp; omega
theorem rows_nil {α : Type} (n i : Nat) : (List.replicate n ([] : List α)).getD i [] = [] := by
  rw [List.getD_eq_getElem?_getD, List.getElem?_replicate]
  split <;> rfl
end Go.Ab
