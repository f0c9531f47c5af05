/- Of arguments from outside: how long they may be (the form's own reach). -/
import Derived.Test.YtoghkabjfpolbaaAbC
import Derived.SizedLaws
namespace Go.Ab
open Go.RowKit Go.WideShapes Go.ChangeShapes Go.Deep
section
variable {H : Type} {enc : TypeId × Value → H} {P : Program} {W : World} {base : Nat} {held : Bool}
theorem wAll_mem {e : TypeId} : ∀ {l : List (DataW H)} {d : DataW H}, d ∈ l → ∀ n ∈ d.weights P e, n ∈ DataW.weightsAll P e l
  | d' :: r, d, hd, n, hn => by
    simp only [DataW.weightsAll, List.mem_append]
    rcases List.mem_cons.1 hd with rfl | h
    · exact Or.inl hn
    · exact Or.inr (wAll_mem h n hn)
theorem lits_len (k : IntKind) (zs : List Int) : (lits (H := H) k zs).length = zs.length := by simp [lits]
theorem sz_ints {t e : TypeId} {k : IntKind} {fuel : Nat} {v : Value} {x : DataW H × List MemPlace} {xs : List Int} (ht : P.underlying t = some (.slice e)) (he : P.underlying e = some (.int k)) (hc : P.cellsOf e = 1) (hby : P.bytesOf e = 8)
    (h : DataW.trod enc P W base (fun _ => true) held fuel t [v] = some x) (hz : ∀ n ∈ x.1.weights P t, n ≤ reachBytes) (hv : VM (argM W) (.ro (.ints k xs)) v) : xs.length * 8 ≤ 140737488351232 := by
  obtain ⟨A, cap', hv1, hlc, _, _⟩ := hv
  rcases open_ints ht he hc h with ⟨h1, _⟩ | ⟨a, len, cap, zs, h1, _, h2, h3, h4, h5, _, _⟩
  · simp only [List.cons.injEq, and_true] at h1
    rw [hv1] at h1
    simp only [Value.slice.injEq] at h1
    have : xs.length = 0 := h1.2.1
    omega
  · simp only [List.cons.injEq, and_true] at h1
    rw [hv1] at h1
    simp only [Value.slice.injEq] at h1
    obtain ⟨_, q2, q3⟩ := h1
    have q2' : xs.length = len := q2
    simp only [if_true] at h4
    have hw := hz (((lits (H := H) k (zs.take len)).length + (lits (H := H) k (zs.drop len)).length) * P.bytesOf e) (by rw [h5]; simp [DataW.weights, ht])
    rw [lits_len, lits_len, hby, List.length_take, List.length_drop] at hw
    have : reachBytes = 140737488351232 := rfl
    omega
theorem sz_rows {t e q : TypeId} {fuel : Nat} {v : Value} {x : DataW H × List MemPlace} {xs : List (List Int)} (ht : P.underlying t = some (.slice e)) (he : P.underlying e = some (.slice q)) (hq : P.underlying q = some (.int .i64)) (ce : P.cellsOf e = 1) (cq : P.cellsOf q = 1) (hby : P.bytesOf q = 8)
    (h : DataW.trod enc P W base (fun _ => true) held fuel t [v] = some x) (hz : ∀ n ∈ x.1.weights P t, n ≤ reachBytes) (hv : VM (argM W) (.rs (.rows xs)) v) : ∀ r ∈ xs, r.length * 8 ≤ 140737488355328 := by
  obtain ⟨A', cap', hv1, hlc, _, hr⟩ := hv
  intro r hrm
  obtain ⟨i, hi, rfl⟩ := List.mem_iff_getElem.1 hrm
  have hlen : (C1.rows xs).len = xs.length := rfl
  rcases hr with h0 | ⟨b, off, rfl, _, hrow⟩
  · rw [hlen] at h0; omega
  rcases open_int_rows ht he hq ce cq h with ⟨h1, _⟩ | ⟨a, len, cap, A, L, C, Z, h1, _, h2, h3, hx, h5⟩
  · simp only [List.cons.injEq, and_true] at h1
    rw [hv1] at h1
    cases h1
  · simp only [List.cons.injEq, and_true] at h1
    rw [hv1] at h1
    simp only [Value.slice.injEq, Option.some.injEq] at h1
    obtain ⟨q1, q2, q3⟩ := h1
    subst q1
    have q2' : xs.length = len := q2
    obtain ⟨g1, g2, g3, g4, _, g6, _⟩ := h5 i (by omega)
    obtain ⟨u, hu, hvf⟩ := hrow i (by rw [hlen]; exact hi) 0 (by simp [C1.sz])
    rw [Addr.add_lit] at g1
    have e1 : off + (i * (C1.rows xs).sz + 0) = off + i := by simp [C1.sz]
    rw [e1] at hu
    rw [show (argM W).w = W from rfl, g1] at hu
    cases hu
    have hcell : (C1.rows xs).cell i 0 = .ro (.ints .i64 (xs.getD i [])) := rfl
    rw [hcell] at hvf
    obtain ⟨A2, cap2, hv2, _, _, _⟩ := hvf
    simp only [Value.slice.injEq] at hv2
    obtain ⟨_, q5, _⟩ := hv2
    have q5' : (xs.getD i []).length = L i := q5.symm
    have hget : xs.getD i [] = xs[i] := by simp [List.getD_eq_getElem?_getD, List.getElem?_eq_getElem hi]
    rw [hget] at q5'
    cases hA : A i with
    | none => have := g6 hA; omega
    | some a' =>
      have hmem : intRow (H := H) .i64 (A i) (L i) (Z i) ∈ (List.range len).map fun r => intRow (H := H) .i64 (A r) (L r) (Z r) := List.mem_map.2 ⟨i, List.mem_range.2 (by omega), rfl⟩
      have hw := hz (((lits (H := H) .i64 ((Z i).take (L i))).length + (lits (H := H) .i64 ((Z i).drop (L i))).length) * P.bytesOf q) (by
        rw [hx]
        simp only [DataW.weights, ht, List.mem_cons, List.mem_append]
        refine Or.inr (Or.inl (wAll_mem hmem _ ?_))
        rw [hA]
        simp [intRow, DataW.weights, he])
      rw [lits_len, lits_len, hby, List.length_take, List.length_drop] at hw
      have : reachBytes = 140737488351232 := rfl
      omega
end
end Go.Ab
