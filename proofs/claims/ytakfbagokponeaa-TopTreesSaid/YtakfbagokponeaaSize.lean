/- Of arguments from outside: how long they may be (the form's own reach). -/
import Derived.Test.YtakfbagokponeaaAbC
import Derived.SizedLaws
namespace Go.Ab
open Go.RowKit Go.WideShapes Go.ChangeShapes Go.Deep
section
variable {H : Type} {enc : TypeId × Value → H} {P : Program} {W : World} {base : Nat} {held : Bool}
theorem lits_len (k : IntKind) (zs : List Int) : (lits (H := H) k zs).length = zs.length := by simp [lits]
theorem sz_ints {t e : TypeId} {k : IntKind} {fuel : Nat} {v : Value} {x : DataW H × List MemPlace} {xs : List Int} (ht : P.underlying t = some (.slice e)) (he : P.underlying e = some (.int k)) (hc : P.cellsOf e = 1) (hby : P.bytesOf e = 8)
    (h : DataW.trod enc P W base (fun _ => true) held fuel t [v] = some x) (hz : ∀ n ∈ x.1.weights P t, n ≤ reachBytes) (hv : VM (argM W) (.ro (.ints k xs)) v) : xs.length * 8 ≤ 140737488351232 := by
  obtain ⟨A, cap', hv1, hlc, _, _⟩ := hv
  rcases open_ints ht he hc h with ⟨h1, _⟩ | ⟨a, len, cap, zs, h1, _, h2, h3, h4, h5, _, _⟩
  · simp only [List.cons.injEq, and_true] at h1
    rw [hv1] at h1
    simp only [Value.slice.injEq] at h1
    have : xs.length = 0 := h1.2.1
    omega
  · simp only [List.cons.injEq, and_true] at h1
    rw [hv1] at h1
    simp only [Value.slice.injEq] at h1
    obtain ⟨_, q2, q3⟩ := h1
    have q2' : xs.length = len := q2
    simp only [if_true] at h4
    have hw := hz (((lits (H := H) k (zs.take len)).length + (lits (H := H) k (zs.drop len)).length) * P.bytesOf e) (by rw [h5]; simp [DataW.weights, ht])
    rw [lits_len, lits_len, hby, List.length_take, List.length_drop] at hw
    have : reachBytes = 140737488351232 := rfl
    omega
end
end Go.Ab
