/- Of turning a list round by exchanging its ends: the plain laws. -/
import Derived.Test.YtoghkabjfpolbaaPl1
namespace Go.Ab
structure RevTo (d x : List Int) (i : Nat) (j : Int) : Prop where
  ij : j + i + 1 = d.length
  len : x.length = d.length
  at_ : ∀ p : Nat, p < d.length → x.getD p 0 = if (p < i ∨ j < p) then d.getD (d.length - 1 - p) 0 else d.getD p 0
theorem RevTo.start (d : List Int) : RevTo d d 0 (d.length - 1) := ⟨by omega, rfl, fun p hp => by rw [if_neg (by omega)]⟩
theorem RevTo.step {d x : List Int} {i : Nat} {j : Int} (h : RevTo d x i j) (hij : (i : Int) < j) : RevTo d ((x.set i (x.getD j.toNat 0)).set j.toNat (x.getD i 0)) (i + 1) (j - 1) := by
  have h1 := h.ij
  refine ⟨by omega, by rw [List.length_set, List.length_set]; exact h.len, fun p hp => ?_⟩
  have hl := h.len
  by_cases e : p = j.toNat
  · rw [e, getD_set_self _ _ _ _ (by rw [List.length_set]; omega), h.at_ i (by omega), if_neg (by omega), if_pos (by omega)]
    congr 1; omega
  · rw [getD_set_ne _ _ _ _ _ (Ne.symm e)]
    by_cases e2 : p = i
    · rw [e2, getD_set_self _ _ _ _ (by omega), h.at_ j.toNat (by omega), if_neg (by omega), if_pos (by omega)]
      congr 1; omega
    · rw [getD_set_ne _ _ _ _ _ (Ne.symm e2), h.at_ p hp]
      by_cases q : p < i ∨ j < p
      · rw [if_pos q, if_pos (by omega)]
      · rw [if_neg q, if_neg (by omega)]
theorem RevTo.end_ {d x : List Int} {i : Nat} {j : Int} (h : RevTo d x i j) (hij : ¬ (i : Int) < j) : x = d.reverse := by
  have h1 := h.ij
  refine list_ext 0 (by rw [List.length_reverse]; exact h.len) fun p hp => ?_
  rw [h.len] at hp
  have hr : d.reverse.getD p 0 = d.getD (d.length - 1 - p) 0 := by
    rw [List.getD_eq_getElem?_getD, List.getD_eq_getElem?_getD, List.getElem?_reverse hp]
  rw [hr, h.at_ p hp]
  by_cases q : p < i ∨ j < p
  · rw [if_pos q]
  · rw [if_neg q]; congr 1; omega
end Go.Ab
