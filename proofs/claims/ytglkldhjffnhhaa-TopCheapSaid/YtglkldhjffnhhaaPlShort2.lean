/- Of ways with lengths, part two: what the program and the reference say of each other. -/
import Derived.Test.YtglkldhjffnhhaaPlShort
namespace Go.Ab
structure LongT (n : Int) (es : List Arc) (D : List (List Int)) : Prop where
  len : D.length = n.toNat
  row : ∀ i : Nat, i < n.toNat → LongD n es i 24 (D.getD i [])
section
variable {n : Int} {es : List Arc} {S : Int → Prop} {f : List Int} {g : List Bool} {D : List (List Int)}
/-- A way that is as short as can be, of few arcs. -/
theorem Far.short (h12 : n ≤ 12) (hA : InR n es) (hS : ∀ x, S x → 0 ≤ x ∧ x < n) (h : Far n es S f g) {v : Int} (v0 : 0 ≤ v) (v1 : v < n) (hg : g.getD v.toNat false = true) : ∃ s Y, S s ∧ Y.length ≤ 24 ∧ Wl es (fun x => x = s) v Y (f.getD v.toNat 0) := by
  obtain ⟨Y, hY⟩ := h.rx.snd v v0 v1 hg
  obtain ⟨Y', w', g1, g2, g3⟩ := reduce (h.ncyc hA hS) (Nat.le_refl _) hY
  have h1 := (h.low v Y' w' g2).2
  have he : w' = f.getD v.toNat 0 := by omega
  have hin := Wl.in_ hA hS g2
  have h3 : (v :: Y').length ≤ n.toNat := nodup_len2 g1 fun i hi => by have := hin i hi; omega
  rw [he] at g2
  obtain ⟨s, hs, hW⟩ := g2.from_
  exact ⟨s, Y', hs, by simp at h3; omega, hW⟩
structure RowOk (n : Int) (x f : List Int) (g : List Bool) : Prop where
  xl : x.length = n.toNat
  fl : f.length = n.toNat
  gl : g.length = n.toNat
  at_ : ∀ k : Nat, k < n.toNat → g.getD k false = decide (x.getD k 0 < 1073741824) ∧ (g.getD k false = true → f.getD k 0 = x.getD k 0) ∧ (g.getD k false = false → f.getD k 0 = 0)
theorem Far.row (h12 : n ≤ 12) (hA : InR n es) (hok : ∀ a ∈ es, -10000 ≤ a.cap ∧ a.cap ≤ 10000) {s : Int} (hs : 0 ≤ s ∧ s < n) (h : Far n es (fun x => x = s) f g) {x : List Int} (hx : LongD n es s 24 x) : RowOk n x f g := by
  have hS : ∀ x, (fun x => x = s) x → 0 ≤ x ∧ x < n := fun x hx => by
    have : x = s := hx
    rw [this]; exact hs
  refine ⟨hx.len, h.rx.fl, h.rx.gl, fun k hk => ?_⟩
  have hkn : (k : Int) < n := by omega
  have hr := hx.rng k hk
  cases e : g.getD k false
  · have hz := h.rx.zero k (by omega) hkn (by rw [Int.toNat_natCast]; exact e)
    rw [Int.toNat_natCast] at hz
    refine ⟨?_, fun q => (by cases q), fun _ => hz⟩
    symm
    rw [decide_eq_false_iff_not]
    intro q
    obtain ⟨Y, _, hY⟩ := hx.snd k (by omega) hkn (by rw [Int.toNat_natCast]; omega)
    have := (h.low _ _ _ hY).1
    rw [Int.toNat_natCast, e] at this
    cases this
  · obtain ⟨s', Y, hs', hl, hW⟩ := h.short h12 hA hS (by omega) hkn (by rw [Int.toNat_natCast]; exact e)
    have hs2 : s' = s := hs'
    rw [hs2, Int.toNat_natCast] at hW
    have h1 := hx.cpl _ _ _ hW hl
    rw [Int.toNat_natCast] at h1
    have h3 := (Wl.wt hok hW).2
    obtain ⟨Y2, _, hY2⟩ := hx.snd k (by omega) hkn (by rw [Int.toNat_natCast]; omega)
    have h2 := (h.low _ _ _ hY2).2
    rw [Int.toNat_natCast] at h2
    refine ⟨?_, fun _ => by omega, fun q => by cases q⟩
    symm
    rw [decide_eq_true_eq]; omega
/-! ### The heights -/
/-! ### What the reference says of round ways -/
/-! ### The start -/
theorem Rx.one {s : Int} (hs : 0 ≤ s ∧ s < n) : Rx n es (fun x => x = s) (List.replicate n.toNat 0) ((List.replicate n.toNat false).set s.toNat true) := by
  have hg : ∀ v : Nat, ((List.replicate n.toNat false).set s.toNat true).getD v false = decide (v = s.toNat) := fun v => by
    rw [getD_set _ _ _ _ _ (by simp; omega)]
    by_cases e : v = s.toNat
    · rw [if_pos e]; exact (decide_eq_true e).symm
    · rw [if_neg e, decide_eq_false e]
      by_cases q : v < n.toNat
      · rw [getD_lt _ false v (by simpa using q), List.getElem_replicate]
      · exact getD_ge _ _ _ (by simp; omega)
  have hz : ∀ v : Nat, (List.replicate n.toNat (0 : Int)).getD v 0 = 0 := fun v => by
    by_cases q : v < n.toNat
    · rw [getD_lt _ 0 v (by simpa using q), List.getElem_replicate]
    · exact getD_ge _ _ _ (by simp; omega)
  refine ⟨by simp, by simp, fun v v0 v1 hv => ?_, fun v v0 v1 hv => ?_, fun v _ _ _ => hz _⟩
  · have : v = s := hv
    rw [hg, hz]; exact ⟨decide_eq_true (by omega), Int.le_refl _⟩
  · rw [hg, decide_eq_true_eq] at hv
    exact ⟨[], show v = s by omega, hz _⟩
theorem Rx.all {g : List Bool} (hl : g.length = n.toNat) (h : ∀ v : Nat, v < n.toNat → g.getD v false = true) : Rx n es (fun x => 0 ≤ x ∧ x < n) (List.replicate n.toNat 0) g := by
  have hz : ∀ v : Nat, (List.replicate n.toNat (0 : Int)).getD v 0 = 0 := fun v => by
    by_cases q : v < n.toNat
    · rw [getD_lt _ 0 v (by simpa using q), List.getElem_replicate]
    · exact getD_ge _ _ _ (by simp; omega)
  exact ⟨by simp, hl, fun v v0 v1 _ => by rw [hz]; exact ⟨h _ (by omega), Int.le_refl _⟩, fun v v0 v1 _ => ⟨[], ⟨v0, v1⟩, hz _⟩, fun v _ _ _ => hz _⟩
theorem Rx.cpl0 (h : Rx n es S f g) (hS : ∀ x, S x → 0 ≤ x ∧ x < n) : Cpl n es S f g 0 := by
  intro v Y w hW hl
  have : Y = [] := List.eq_nil_of_length_eq_zero (by omega)
  subst this
  obtain ⟨h1, h2⟩ := hW
  obtain ⟨v0, v1⟩ := hS v h1
  obtain ⟨s1, s2⟩ := h.src v v0 v1 h1
  exact ⟨s1, by omega⟩
theorem Bnd.zero {m : Nat} : Bnd (List.replicate m 0) 0 := fun v => by
  by_cases q : v < m
  · rw [getD_lt _ 0 v (by simpa using q), List.getElem_replicate]; omega
  · rw [getD_ge _ _ _ (by simp; omega)]; omega
theorem Bnd.set {f : List Int} {c x : Int} {i : Nat} (h : Bnd f c) (hx : -(c + 10000) ≤ x ∧ x ≤ c + 10000) : Bnd (f.set i x) (c + 10000) := fun v => by
  by_cases q : i < f.length
  · rw [getD_set _ _ _ _ _ q]
    split
    · exact hx
    · have := h v; omega
  · rw [List.set_eq_of_length_le (by omega)]; have := h v; omega
/-! ### What the program's functions return -/
def FromOk (n : Int) (es : List Arc) (s : Int) (f : List Int) (g : List Bool) (e : Int) : Prop :=
  (graphErr n es (-10000) ≠ 0 ∧ e = graphErr n es (-10000) ∧ f = [] ∧ g = []) ∨ (graphErr n es (-10000) = 0 ∧ ¬ (0 ≤ s ∧ s < n) ∧ e = 4 ∧ f = [] ∧ g = []) ∨
  (graphErr n es (-10000) = 0 ∧ (0 ≤ s ∧ s < n) ∧ e = 6 ∧ f = [] ∧ g = [] ∧ Better es (fun x => x = s) n.toNat) ∨ (graphErr n es (-10000) = 0 ∧ (0 ≤ s ∧ s < n) ∧ e = 0 ∧ Far n es (fun x => x = s) f g)
def HeightOk (n : Int) (es : List Arc) (f : List Int) (e : Int) : Prop :=
  (graphErr n es (-10000) ≠ 0 ∧ e = graphErr n es (-10000) ∧ f = []) ∨ (graphErr n es (-10000) = 0 ∧ e = 6 ∧ f = [] ∧ Better es (fun x => 0 ≤ x ∧ x < n) n.toNat) ∨
  (graphErr n es (-10000) = 0 ∧ e = 0 ∧ ∃ g, Far n es (fun x => 0 ≤ x ∧ x < n) f g)
end
end Go.Ab
