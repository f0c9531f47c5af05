/- Plain laws of lists. -/
import Derived.Test.YtghhkefgngdgeaaAb1
namespace Go.Ab
theorem getD_lt {α : Type} (xs : List α) (d : α) (i : Nat) (h : i < xs.length) : xs.getD i d = xs[i] := by simp [List.getD_eq_getElem?_getD, List.getElem?_eq_getElem h]
theorem getD_mem {α : Type} {xs : List α} {d : α} {i : Nat} (h : i < xs.length) : xs.getD i d ∈ xs := by rw [getD_lt xs d i h]; exact List.getElem_mem h
theorem getD_ge {α : Type} (xs : List α) (d : α) (i : Nat) (h : xs.length ≤ i) : xs.getD i d = d := by simp [List.getD_eq_getElem?_getD, List.getElem?_eq_none h]
theorem list_ext {α : Type} {xs ys : List α} (d : α) (hl : xs.length = ys.length) (h : ∀ i, i < xs.length → xs.getD i d = ys.getD i d) : xs = ys := by
  refine List.ext_getElem hl fun i h1 h2 => ?_
  have := h i h1
  rwa [getD_lt xs d i h1, getD_lt ys d i h2] at this
theorem drop_getD {α : Type} (xs : List α) (d : α) (i : Nat) (h : i < xs.length) : xs.drop i = xs.getD i d :: xs.drop (i + 1) := by
  rw [getD_lt xs d i h]; exact List.drop_eq_getElem_cons h
theorem take_getD {α : Type} (xs : List α) (d : α) (i : Nat) (h : i < xs.length) : xs.take (i + 1) = xs.take i ++ [xs.getD i d] := by
  rw [getD_lt xs d i h]; exact (List.take_append_getElem h).symm
theorem eq_no {α : Type} [DecidableEq α] {xs ys : List α} (h : ¬ xs = ys) : false = decide (xs = ys) := (decide_eq_false h).symm
theorem eq_yes {α : Type} [DecidableEq α] {xs ys : List α} (h : xs = ys) : true = decide (xs = ys) := (decide_eq_true h).symm
end Go.Ab
