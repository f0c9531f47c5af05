/- Of arguments from outside: how long a list of arcs in a struct may be (the form's own reach). -/
import Derived.Test.YtnfnlgfdfmnghaaSize
namespace Go.Ab
open Go.RowKit Go.WideShapes Go.ChangeShapes Go.Deep
section
variable {H : Type} {enc : TypeId × Value → H} {P : Program} {W : World} {base : Nat} {held : Bool}
theorem sz_arcs {t e : TypeId} {fuel : Nat} {v : Value} {x : DataW H × List MemPlace} {xs : List Arc} (ht : P.underlying t = some (.slice e)) (hby : P.bytesOf e = 24)
    (h : DataW.trod enc P W base (fun _ => true) held fuel t [v] = some x) (hz : ∀ n ∈ x.1.weights P t, n ≤ reachBytes) (hv : VM (argM W) (.ro (.arcs xs)) v) : xs.length * 24 ≤ 140737488351232 := by
  obtain ⟨A, cap', hv1, hlc, _, _⟩ := hv
  rcases DataW.trod_slice ht h with ⟨h1, _⟩ | ⟨a, len, cap, elems, rest, n, _, h1, hx, _, h2, h3, h4, _⟩
  · simp only [List.cons.injEq, and_true] at h1
    rw [hv1] at h1
    simp only [Value.slice.injEq] at h1
    have : xs.length = 0 := h1.2.1
    omega
  · simp only [List.cons.injEq, and_true] at h1
    rw [hv1] at h1
    simp only [Value.slice.injEq] at h1
    obtain ⟨_, q2, q3⟩ := h1
    have q2' : xs.length = len := q2
    have hw := hz (((elems.map (·.1)).length + (rest.map (·.1)).length) * P.bytesOf e) (by rw [hx]; simp [DataW.weights, ht])
    rw [List.length_map, List.length_map, hby, h4] at hw
    have : reachBytes = 140737488351232 := rfl
    omega
theorem sz_field {t : TypeId} {fs : Array Field} {ys : List (DataW H × List MemPlace)} {pl : List MemPlace} {d : DataW H} {p : List MemPlace} (ht : P.underlying t = some (.struct fs)) (hx : (d, p) = (.agg (ys.map (·.1)), pl)) (hz : ∀ n ∈ d.weights P t, n ≤ reachBytes) {i : Nat} {f : Field} {y : DataW H × List MemPlace}
    (hf : fs[i]? = some f) (hy : ys[i]? = some y) : ∀ n ∈ y.1.weights P f.type, n ≤ reachBytes := fun n hn => hz n (by
  have hd : d = .agg (ys.map (·.1)) := (Prod.mk.inj hx).1
  rw [hd]
  simp only [DataW.weights, ht]
  refine DataW.weights_mem_each (j := i) (t := f.type) (d := y.1) ?_ ?_ n hn
  · rw [List.getElem?_map, Array.getElem?_toList, hf]; rfl
  · rw [List.getElem?_map, hy]; rfl)
end
end Go.Ab
