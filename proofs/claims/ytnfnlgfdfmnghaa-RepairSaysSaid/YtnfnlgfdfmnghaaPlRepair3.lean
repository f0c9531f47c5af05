/- Of a net that changes: an arc goes: the plain laws. -/
import Derived.Test.YtnfnlgfdfmnghaaPlRepair2
import Derived.Test.YtnfnlgfdfmnghaaDel0
namespace Go.Ab
theorem capErr2_in {n s t k takes : Int} {es : List Arc} {f : List Int} (h : capErr2 n s t es f k takes = 0) : 0 ≤ k ∧ k < es.length := by
  unfold capErr2 at h
  split at h
  · omega
  · split at h
    · omega
    · omega
theorem delA_take {es : List Arc} {i : Nat} (h : i < es.length) : (delA es i).take (es.length - 1) = dropAt es i := by
  unfold delA dropAt
  rw [List.take_append_of_le_length (by rw [List.length_append, List.length_take, List.length_drop]; omega), List.take_of_length_le (by rw [List.length_append, List.length_take, List.length_drop]; omega)]
theorem delI_take {zs : List Int} {i : Nat} (h : i < zs.length) : (delI zs i).take (zs.length - 1) = dropAt zs i := by
  unfold delI dropAt
  rw [List.take_append_of_le_length (by rw [List.length_append, List.length_take, List.length_drop]; omega), List.take_of_length_le (by rw [List.length_append, List.length_take, List.length_drop]; omega)]
theorem cap_zero {n s t : Int} {es : List Arc} {g : List Int} {k : Nat} (h : FlOk n s t (setCap es k 0) g) (hk : k < es.length) : g.getD k 0 = 0 := by
  have h1 := h.fin.at_ k (by rw [setCap_len]; exact hk)
  unfold setCap at h1
  rw [getD_set_self _ _ _ _ hk] at h1
  have : (⟨(es.getD k default).src, (es.getD k default).dst, 0⟩ : Arc).cap = 0 := rfl
  omega
theorem RepRes.off {n s t x N S T v e : Int} {es A : List Arc} {g : List Int} (h : RepRes n s t es x N S T A g v e) (hx : x ≠ 0) {n' s' t' : Int} {es' : List Arc} : RepRes n' s' t' es' x N S T A g v e :=
  ⟨h.1, .inl (h.2.resolve_right fun q => hx q.1)⟩
theorem flat_dropAt {es : List Arc} {k : Int} (h : 0 ≤ k) : List.flatten [List.take k.toNat es, List.drop (k + 1).toNat es] = dropAt es k.toNat := by
  rw [show (k + 1).toNat = k.toNat + 1 by omega]; simp [dropAt]
end Go.Ab
