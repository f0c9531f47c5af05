/- Of the order of arcs by their bounds, as it is compared: the plain laws. -/
import Derived.Test.YtakfbagokponeaaPlSpan3
import Derived.Test.YtakfbagokponeaaPlGale
namespace Go.Ab
def cmpS (es : List Arc) (x y : Int) : Int := if cmpI (es.getD x.toNat default).cap (es.getD y.toNat default).cap ≠ 0 then cmpI (es.getD x.toNat default).cap (es.getD y.toNat default).cap else cmpI x y
theorem cmpI_neg {x y : Int} : cmpI x y < 0 ↔ x < y := by unfold cmpI; split <;> (try split) <;> omega
theorem cmpI_zero {x y : Int} : cmpI x y = 0 ↔ x = y := by unfold cmpI; split <;> (try split) <;> omega
theorem cmpS_neg {es : List Arc} {i k : Nat} : cmpS es (i : Int) (k : Int) < 0 ↔ lowB es i k = true := by
  rw [lowB_iff]
  unfold cmpS ar
  rw [Int.toNat_natCast, Int.toNat_natCast]
  by_cases h : cmpI (es.getD i default).cap (es.getD k default).cap = 0
  · rw [if_neg (fun q => q h), cmpI_neg]
    have := cmpI_zero.1 h
    omega
  · rw [if_pos h, cmpI_neg]
    have : ¬ _ := fun q => h (cmpI_zero.2 q)
    omega
def finL (n : Nat) : List (Fin n) := List.ofFn id
theorem finL_len (n : Nat) : (finL n).length = n := by unfold finL; rw [List.length_ofFn]
theorem finL_ids (n : Nat) : (finL n).map (fun x => ((x.val : Nat) : Int)) = idsOf n := by
  unfold finL idsOf
  apply List.ext_getElem
  · simp
  · intro i h1 h2; simp
theorem lowB_total {es : List Arc} {i k : Nat} (h1 : lowB es i k = false) (h2 : lowB es k i = false) : i = k := by
  have f1 : ¬ _ := fun q => Bool.false_ne_true (h1.symm.trans (lowB_iff.2 q))
  have f2 : ¬ _ := fun q => Bool.false_ne_true (h2.symm.trans (lowB_iff.2 q))
  omega
theorem lowB_trans {es : List Arc} {i j k : Nat} (h1 : lowB es i j = true) (h2 : lowB es j k = true) : lowB es i k = true := by
  rw [lowB_iff] at *; omega
theorem lowB_ntrans {es : List Arc} {i j k : Nat} (h1 : lowB es i j = false) (h2 : lowB es j k = false) : lowB es i k = false := by
  cases e : lowB es i k
  · rfl
  · have f1 : ¬ _ := fun q => Bool.false_ne_true (h1.symm.trans (lowB_iff.2 q))
    have f2 : ¬ _ := fun q => Bool.false_ne_true (h2.symm.trans (lowB_iff.2 q))
    have := lowB_iff.1 e
    omega
theorem fin_sort (es : List Arc) (lt : Fin es.length → Fin es.length → Bool) (hlt : ∀ x y, lt x y = lowB es x.val y.val) :
    ((finL es.length).mergeSort fun x y => !lt y x).map (fun x => ((x.val : Nat) : Int)) = ordO es := by
  rw [List.map_mergeSort (s := fun i k : Int => !lowB es k.toNat i.toNat) (fun a _ b _ => by rw [hlt, Int.toNat_natCast, Int.toNat_natCast]), finL_ids]
  rfl
end Go.Ab
