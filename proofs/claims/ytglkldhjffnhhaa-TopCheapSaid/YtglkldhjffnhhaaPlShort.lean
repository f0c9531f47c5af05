/- Of ways with lengths: the plain laws. -/
import Derived.Test.YtglkldhjffnhhaaPlB
import Derived.Test.YtglkldhjffnhhaaPlA
namespace Go.Ab
/-- A way from where S says to v, its nodes ahead of v told from its end, of a length. -/
def Wl (es : List Arc) (S : Int → Prop) : Int → List Int → Int → Prop
  | v, [], w => S v ∧ w = 0
  | v, u :: Z, w => ∃ a ∈ es, a.src = u ∧ a.dst = v ∧ Wl es S u Z (w - a.cap)
section
variable {es : List Arc} {S : Int → Prop}
theorem Wl.arc {a : Arc} (ha : a ∈ es) {Z : List Int} {w : Int} (h : Wl es S a.src Z w) : Wl es S a.dst (a.src :: Z) (w + a.cap) := ⟨a, ha, rfl, rfl, by rw [show w + a.cap - a.cap = w by omega]; exact h⟩
theorem Wl.split {b : Int} {Z : List Int} : ∀ {X : List Int} {v w : Int}, Wl es S v (X ++ b :: Z) w → ∃ w1 w2, Wl es (fun x => x = b) v (X ++ [b]) w1 ∧ Wl es S b Z w2 ∧ w = w1 + w2
  | [], v, w, ⟨a, ha, h1, h2, h3⟩ => ⟨a.cap, w - a.cap, ⟨a, ha, h1, h2, rfl, by omega⟩, h3, by omega⟩
  | x :: X, v, w, ⟨a, ha, h1, h2, h3⟩ => by
    obtain ⟨w1, w2, g1, g2, g3⟩ := Wl.split (X := X) h3
    exact ⟨w1 + a.cap, w2, ⟨a, ha, h1, h2, by rw [show w1 + a.cap - a.cap = w1 by omega]; exact g1⟩, g2, by omega⟩
theorem Wl.join {b : Int} {Z : List Int} {w2 : Int} (h : Wl es S b Z w2) : ∀ {Y : List Int} {v w1 : Int}, Wl es (fun x => x = b) v Y w1 → ∃ Y', Wl es S v Y' (w1 + w2) ∧ Y'.length = Y.length + Z.length
  | [], v, w1, ⟨h1, h2⟩ => ⟨Z, by rw [h1, h2, Int.zero_add]; exact h, by simp⟩
  | x :: Y, v, w1, ⟨a, ha, h1, h2, h3⟩ => by
    obtain ⟨Y', g1, g2⟩ := Wl.join h h3
    exact ⟨x :: Y', ⟨a, ha, h1, h2, by rw [show w1 + w2 - a.cap = w1 - a.cap + w2 by omega]; exact g1⟩, by simp [g2]; omega⟩
theorem Wl.join2 {b : Int} {Z : List Int} {w2 : Int} (h : Wl es S b Z w2) : ∀ {X : List Int} {v w1 : Int}, Wl es (fun x => x = b) v (X ++ [b]) w1 → Wl es S v (X ++ b :: Z) (w1 + w2)
  | [], v, w1, ⟨a, ha, h1, h2, h3, h4⟩ => ⟨a, ha, h1, h2, by rw [show w1 + w2 - a.cap = w2 by omega]; exact h⟩
  | x :: X, v, w1, ⟨a, ha, h1, h2, h3⟩ => ⟨a, ha, h1, h2, by
      have := Wl.join2 h (X := X) h3
      rw [show w1 - a.cap + w2 = w1 + w2 - a.cap by omega] at this; exact this⟩
theorem Wl.mono {S2 : Int → Prop} (hS : ∀ x, S x → S2 x) : ∀ {Y : List Int} {v w : Int}, Wl es S v Y w → Wl es S2 v Y w
  | [], v, w, ⟨h1, h2⟩ => ⟨hS v h1, h2⟩
  | x :: Y, v, w, ⟨a, ha, h1, h2, h3⟩ => ⟨a, ha, h1, h2, Wl.mono hS h3⟩
theorem Wl.from_ : ∀ {Y : List Int} {v w : Int}, Wl es S v Y w → ∃ s, S s ∧ Wl es (fun x => x = s) v Y w
  | [], v, w, ⟨h1, h2⟩ => ⟨v, h1, rfl, h2⟩
  | x :: Y, v, w, ⟨a, ha, h1, h2, h3⟩ => by
    obtain ⟨s, hs, g⟩ := Wl.from_ h3
    exact ⟨s, hs, a, ha, h1, h2, g⟩
theorem Wl.in_ {n : Int} (hA : InR n es) (hS : ∀ x, S x → 0 ≤ x ∧ x < n) : ∀ {Y : List Int} {v w : Int}, Wl es S v Y w → ∀ x ∈ v :: Y, 0 ≤ x ∧ x < n
  | [], v, w, ⟨h1, _⟩, x, hx => by rw [List.mem_singleton] at hx; rw [hx]; exact hS v h1
  | u :: Y, v, w, ⟨a, ha, h1, h2, h3⟩, x, hx => by
    rcases List.mem_cons.1 hx with rfl | hx
    · have := hA a ha; omega
    · exact Wl.in_ hA hS h3 x hx
theorem Wl.wt (hok : ∀ a ∈ es, -10000 ≤ a.cap ∧ a.cap ≤ 10000) : ∀ {Y : List Int} {v w : Int}, Wl es S v Y w → -10000 * (Y.length : Int) ≤ w ∧ w ≤ 10000 * (Y.length : Int)
  | [], v, w, ⟨_, h⟩ => by simp [h]
  | u :: Y, v, w, ⟨a, ha, h1, h2, h3⟩ => by
    have := Wl.wt hok h3
    have := hok a ha
    rw [List.length_cons]; omega
theorem nodup_len2 : ∀ {n : Nat} {l : List Int}, l.Nodup → (∀ i ∈ l, 0 ≤ i ∧ i < (n : Int)) → l.length ≤ n
  | 0, l, _, h => by
    cases l with
    | nil => simp
    | cons a l => have := h a List.mem_cons_self; omega
  | n + 1, l, hn, h => by
    by_cases e : (n : Int) ∈ l
    · have h1 := nodup_len2 (n := n) (l := l.erase (n : Int)) (hn.erase _) fun i hi => by
        have h2 := (hn.mem_erase_iff).1 hi
        have := h i h2.2
        have := h2.1
        omega
      rw [List.length_erase_of_mem e] at h1
      omega
    · have := nodup_len2 (n := n) hn fun i hi => by
        have := h i hi
        have : i ≠ (n : Int) := fun q => e (by rw [← q]; exact hi)
        omega
      omega
theorem not_nodup : ∀ {l : List Int}, ¬ l.Nodup → ∃ X b M Z, l = X ++ b :: (M ++ b :: Z) ∧ (b :: M).Nodup
  | [], h => absurd List.nodup_nil h
  | a :: r, h => by
    by_cases e : r.Nodup
    · have ha : a ∈ r := by
        rcases Classical.em (a ∈ r) with q | q
        · exact q
        · exact absurd (List.nodup_cons.2 ⟨q, e⟩) h
      obtain ⟨M, Z, rfl⟩ := List.append_of_mem ha
      refine ⟨[], a, M, Z, rfl, List.nodup_cons.2 ⟨fun q => ?_, (List.nodup_append.1 e).1⟩⟩
      exact (List.nodup_append.1 e).2.2 a q a List.mem_cons_self rfl
    · obtain ⟨X, b, M, Z, rfl, h2⟩ := not_nodup e
      exact ⟨a :: X, b, M, Z, rfl, h2⟩
/-- No round way that can be come to is of a length below 0. -/
def NCyc (es : List Arc) (S : Int → Prop) : Prop := ∀ b M w Z w', (b :: M).Nodup → Wl es (fun x => x = b) b (M ++ [b]) w → Wl es S b Z w' → 0 ≤ w
theorem reduce (hN : NCyc es S) : ∀ {k : Nat} {v : Int} {Y : List Int} {w : Int}, Y.length ≤ k → Wl es S v Y w → ∃ Y' w', (v :: Y').Nodup ∧ Wl es S v Y' w' ∧ w' ≤ w := by
  intro k
  induction k with
  | zero =>
    intro v Y w hk h
    have : Y = [] := List.eq_nil_of_length_eq_zero (by omega)
    rw [this] at h
    exact ⟨[], w, by simp, h, Int.le_refl _⟩
  | succ k ih =>
    intro v Y w hk h
    by_cases e : (v :: Y).Nodup
    · exact ⟨Y, w, e, h, Int.le_refl _⟩
    · obtain ⟨X, b, M, Z, h1, h2⟩ := not_nodup e
      cases X with
      | nil =>
        rw [List.nil_append] at h1
        injection h1 with e1 e2
        rw [e2] at h hk
        obtain ⟨w1, w2, g1, g2, g3⟩ := h.split
        rw [e1] at g1 ⊢
        have := hN b M w1 Z w2 h2 g1 g2
        obtain ⟨Y', w', q1, q2, q3⟩ := ih (v := b) (Y := Z) (w := w2) (by simp at hk; omega) g2
        exact ⟨Y', w', q1, q2, by omega⟩
      | cons x X =>
        rw [List.cons_append] at h1
        injection h1 with e1 e2
        rw [e2] at h hk
        obtain ⟨w1, w2, g1, g2, g3⟩ := h.split
        obtain ⟨wc, w3, g4, g5, g6⟩ := g2.split
        have := hN b M wc Z w3 h2 g4 g5
        obtain ⟨Y', w', q1, q2, q3⟩ := ih (v := v) (Y := X ++ b :: Z) (w := w1 + w3) (by simp at hk ⊢; omega) (g5.join2 g1)
        exact ⟨Y', w', q1, q2, by omega⟩
end
/-! ### Arc by arc -/
structure Rx (n : Int) (es : List Arc) (S : Int → Prop) (f : List Int) (g : List Bool) : Prop where
  fl : f.length = n.toNat
  gl : g.length = n.toNat
  src : ∀ v : Int, 0 ≤ v → v < n → S v → g.getD v.toNat false = true ∧ f.getD v.toNat 0 ≤ 0
  snd : ∀ v : Int, 0 ≤ v → v < n → g.getD v.toNat false = true → ∃ Y, Wl es S v Y (f.getD v.toNat 0)
  zero : ∀ v : Int, 0 ≤ v → v < n → g.getD v.toNat false = false → f.getD v.toNat 0 = 0
def Cpl (n : Int) (es : List Arc) (S : Int → Prop) (f : List Int) (g : List Bool) (r : Nat) : Prop := ∀ v Y w, Wl es S v Y w → Y.length ≤ r → g.getD v.toNat false = true ∧ f.getD v.toNat 0 ≤ w
/-- Some way is better than all of at most so many arcs. -/
def Better (es : List Arc) (S : Int → Prop) (r : Nat) : Prop := ∃ v Y w, Wl es S v Y w ∧ ∀ Y' w', Y'.length ≤ r → Wl es S v Y' w' → w < w'
structure RxS (n : Int) (es : List Arc) (S : Int → Prop) (f0 : List Int) (g0 : List Bool) (f : List Int) (g : List Bool) (i : Nat) (b : Bool) : Prop where
  rx : Rx n es S f g
  le : ∀ v : Nat, g0.getD v false = true → g.getD v false = true ∧ f.getD v 0 ≤ f0.getD v 0
  done : ∀ j, j < i → g0.getD (es.getD j default).src.toNat false = true → g.getD (es.getD j default).dst.toNat false = true ∧ f.getD (es.getD j default).dst.toNat 0 ≤ f0.getD (es.getD j default).src.toNat 0 + (es.getD j default).cap
  still : b = true → f = f0 ∧ g = g0
  chg : b = false → ∃ v Y w, Wl es S v Y w ∧ ¬ (g0.getD v.toNat false = true ∧ f0.getD v.toNat 0 ≤ w)
def Bnd (f : List Int) (c : Int) : Prop := ∀ v : Nat, -c ≤ f.getD v 0 ∧ f.getD v 0 ≤ c
theorem Bnd.mono {f : List Int} {c d : Int} (h : Bnd f c) (hd : c ≤ d) : Bnd f d := fun v => by have := h v; omega
section
variable {n : Int} {es : List Arc} {S : Int → Prop} {f0 f : List Int} {g0 g : List Bool} {i : Nat} {b : Bool}
theorem Rx.start (h : Rx n es S f g) : RxS n es S f g f g 0 true :=
  ⟨h, fun v hv => ⟨hv, Int.le_refl _⟩, fun j hj => by omega, fun _ => ⟨rfl, rfl⟩, fun h => by cases h⟩
theorem RxS.no (h : RxS n es S f0 g0 f g i b) (hno : ¬ (g.getD (es.getD i default).src.toNat false = true ∧ (¬ g.getD (es.getD i default).dst.toNat false = true ∨ f.getD (es.getD i default).src.toNat 0 + (es.getD i default).cap < f.getD (es.getD i default).dst.toNat 0))) :
    RxS n es S f0 g0 f g (i + 1) b := by
  refine ⟨h.rx, h.le, fun j hj hg => ?_, h.still, h.chg⟩
  rcases Nat.lt_succ_iff_lt_or_eq.1 hj with q | q
  · exact h.done j q hg
  · subst q
    obtain ⟨l1, l2⟩ := h.le _ hg
    by_cases e : g.getD (es.getD j default).dst.toNat false = true
    · refine ⟨e, ?_⟩
      rcases Int.lt_or_le (f.getD (es.getD j default).src.toNat 0 + (es.getD j default).cap) (f.getD (es.getD j default).dst.toNat 0) with r | r
      · exact absurd ⟨l1, .inr r⟩ hno
      · omega
    · exact absurd ⟨l1, .inl e⟩ hno
theorem RxS.yes (hA : InR n es) (h : RxS n es S f0 g0 f g i b) (hi : i < es.length) (h1 : g.getD (es.getD i default).src.toNat false = true) (h2 : ¬ g.getD (es.getD i default).dst.toNat false = true ∨ f.getD (es.getD i default).src.toNat 0 + (es.getD i default).cap < f.getD (es.getD i default).dst.toNat 0) :
    RxS n es S f0 g0 (f.set (es.getD i default).dst.toNat (f.getD (es.getD i default).src.toNat 0 + (es.getD i default).cap)) (g.set (es.getD i default).dst.toNat true) (i + 1) false := by
  have hm := getD_mem (d := default) hi
  generalize hae : es.getD i default = a at *
  obtain ⟨a1, a2, a3, a4⟩ := hA a hm
  have hfl := h.rx.fl; have hgl := h.rx.gl
  have hf : ∀ v, (f.set a.dst.toNat (f.getD a.src.toNat 0 + a.cap)).getD v 0 = if v = a.dst.toNat then f.getD a.src.toNat 0 + a.cap else f.getD v 0 := fun v => getD_set _ _ _ _ _ (by omega)
  have hg : ∀ v, (g.set a.dst.toNat true).getD v false = if v = a.dst.toNat then true else g.getD v false := fun v => getD_set _ _ _ _ _ (by omega)
  obtain ⟨Ys, hYs⟩ := h.rx.snd a.src a1 a2 h1
  have hnew := Wl.arc hm hYs
  have hless : ∀ v : Nat, g.getD v false = true → (f.set a.dst.toNat (f.getD a.src.toNat 0 + a.cap)).getD v 0 ≤ f.getD v 0 := fun v hv => by
    rw [hf]; split
    · rename_i e
      subst e
      rcases h2 with q | q
      · exact absurd hv q
      · omega
    · exact Int.le_refl _
  refine ⟨⟨by rw [List.length_set]; exact hfl, by rw [List.length_set]; exact hgl, fun v v0 v1 hS => ?_, fun v v0 v1 hv => ?_, fun v v0 v1 hv => ?_⟩, fun v hv => ?_, fun j hj hgj => ?_, fun q => (by cases q), fun _ => ?_⟩
  · obtain ⟨s1, s2⟩ := h.rx.src v v0 v1 hS
    refine ⟨by rw [hg]; split; rfl; exact s1, ?_⟩
    have := hless v.toNat s1; omega
  · rw [hf]; rw [hg] at hv
    by_cases e : v.toNat = a.dst.toNat
    · rw [if_pos e, show v = a.dst by omega]; exact ⟨_, hnew⟩
    · rw [if_neg e] at hv ⊢; exact h.rx.snd v v0 v1 hv
  · rw [hg] at hv; rw [hf]
    by_cases e : v.toNat = a.dst.toNat
    · rw [if_pos e] at hv; cases hv
    · rw [if_neg e] at hv ⊢; exact h.rx.zero v v0 v1 hv
  · obtain ⟨l1, l2⟩ := h.le v hv
    refine ⟨by rw [hg]; split; rfl; exact l1, ?_⟩
    have := hless v l1; omega
  · rcases Nat.lt_succ_iff_lt_or_eq.1 hj with q | q
    · obtain ⟨d1, d2⟩ := h.done j q hgj
      refine ⟨by rw [hg]; split; rfl; exact d1, ?_⟩
      have := hless _ d1; omega
    · subst q
      rw [hae] at hgj ⊢
      obtain ⟨l1, l2⟩ := h.le _ hgj
      rw [hg, hf, if_pos rfl, if_pos rfl]
      exact ⟨rfl, by omega⟩
  · refine ⟨a.dst, _, _, hnew, fun q => ?_⟩
    obtain ⟨l1, l2⟩ := h.le _ q.1
    rcases h2 with r | r
    · exact r l1
    · omega
theorem RxS.cpl (hS : ∀ x, S x → 0 ≤ x ∧ x < n) {r : Nat} (h : RxS n es S f0 g0 f g i b) (hi : es.length ≤ i) (hc : Cpl n es S f0 g0 r) : Cpl n es S f g (r + 1) := by
  intro v Y w hW hl
  cases Y with
  | nil =>
    obtain ⟨h1, h2⟩ := hW
    obtain ⟨v0, v1⟩ := hS v h1
    obtain ⟨s1, s2⟩ := h.rx.src v v0 v1 h1
    exact ⟨s1, by omega⟩
  | cons u Z =>
    obtain ⟨a, ha, rfl, rfl, h3⟩ := hW
    obtain ⟨c1, c2⟩ := hc _ _ _ h3 (by simp at hl; omega)
    obtain ⟨j, hj, he⟩ := List.mem_iff_getElem.1 ha
    have hej : es.getD j default = a := by rw [getD_lt es default j hj]; exact he
    have hd := h.done j (by omega)
    rw [hej] at hd
    obtain ⟨d1, d2⟩ := hd c1
    exact ⟨d1, by omega⟩
theorem RxS.better {r : Nat} (h : RxS n es S f0 g0 f g i false) (hc : Cpl n es S f0 g0 r) : Better es S r := by
  obtain ⟨v, Y, w, h1, h2⟩ := h.chg rfl
  refine ⟨v, Y, w, h1, fun Y' w' hl hW => ?_⟩
  obtain ⟨c1, c2⟩ := hc v Y' w' hW hl
  rcases Int.lt_or_le w w' with q | q
  · exact q
  · exact absurd ⟨c1, by omega⟩ h2
/-- How far each node is, if no round way of a length below 0 can be come to. -/
structure Far (n : Int) (es : List Arc) (S : Int → Prop) (f : List Int) (g : List Bool) : Prop where
  rx : Rx n es S f g
  low : ∀ v Y w, Wl es S v Y w → g.getD v.toNat false = true ∧ f.getD v.toNat 0 ≤ w
theorem RxS.far (hS : ∀ x, S x → 0 ≤ x ∧ x < n) (h : RxS n es S f0 g0 f g i true) (hi : es.length ≤ i) : Far n es S f g := by
  obtain ⟨e1, e2⟩ := h.still rfl
  subst e1 e2
  refine ⟨h.rx, fun v Y => ?_⟩
  induction Y generalizing v with
  | nil =>
    rintro w ⟨h1, h2⟩
    obtain ⟨v0, v1⟩ := hS v h1
    obtain ⟨s1, s2⟩ := h.rx.src v v0 v1 h1
    exact ⟨s1, by omega⟩
  | cons u Z ih =>
    rintro w ⟨a, ha, rfl, rfl, h3⟩
    obtain ⟨c1, c2⟩ := ih a.src _ h3
    obtain ⟨j, hj, he⟩ := List.mem_iff_getElem.1 ha
    have hej : es.getD j default = a := by rw [getD_lt es default j hj]; exact he
    have hd := h.done j (by omega)
    rw [hej] at hd
    obtain ⟨d1, d2⟩ := hd c1
    exact ⟨d1, by omega⟩
theorem Far.ncyc (hA : InR n es) (hS : ∀ x, S x → 0 ≤ x ∧ x < n) (h : Far n es S f g) : NCyc es S := by
  intro b M w Z w' _ h1 h2
  obtain ⟨v0, v1⟩ := Wl.in_ hA hS h2 b List.mem_cons_self
  obtain ⟨l1, _⟩ := h.low b Z w' h2
  obtain ⟨Y, hY⟩ := h.rx.snd b v0 v1 l1
  obtain ⟨Y', hY', _⟩ := hY.join h1
  have := (h.low b Y' _ hY').2
  omega
theorem Better.cyc (hA : InR n es) (hS : ∀ x, S x → 0 ≤ x ∧ x < n) (h : Better es S n.toNat) : ¬ NCyc es S := by
  intro hN
  obtain ⟨v, Y, w, h1, h2⟩ := h
  obtain ⟨Y', w', g1, g2, g3⟩ := reduce hN (Nat.le_refl _) h1
  have hin := Wl.in_ hA hS g2
  have h3 : (v :: Y').length ≤ n.toNat := nodup_len2 g1 fun i hi => by have := hin i hi; omega
  have := h2 Y' w' (by simp at h3; omega) g2
  omega
end
/-! ### The reference: length by length -/
structure LongD (n : Int) (es : List Arc) (i : Int) (j : Nat) (x : List Int) : Prop where
  len : x.length = n.toNat
  snd : ∀ v : Int, 0 ≤ v → v < n → x.getD v.toNat 0 < 1099511627776 → ∃ Y, Y.length ≤ j ∧ Wl es (fun u => u = i) v Y (x.getD v.toNat 0)
  cpl : ∀ v Y w, Wl es (fun u => u = i) v Y w → Y.length ≤ j → x.getD v.toNat 0 ≤ w
  rng : ∀ v : Nat, v < n.toNat → x.getD v 0 = 1099511627776 ∨ (-10000 * (j : Int) ≤ x.getD v 0 ∧ x.getD v 0 ≤ 10000 * (j : Int))
structure LongS (n : Int) (es : List Arc) (i : Int) (j : Nat) (x y : List Int) (k : Nat) : Prop where
  len : y.length = n.toNat
  snd : ∀ v : Int, 0 ≤ v → v < n → y.getD v.toNat 0 < 1099511627776 → ∃ Y, Y.length ≤ j + 1 ∧ Wl es (fun u => u = i) v Y (y.getD v.toNat 0)
  le : ∀ v : Nat, y.getD v 0 ≤ x.getD v 0
  done : ∀ m, m < k → x.getD (es.getD m default).src.toNat 0 < 1099511627776 → y.getD (es.getD m default).dst.toNat 0 ≤ x.getD (es.getD m default).src.toNat 0 + (es.getD m default).cap
  rng : ∀ v : Nat, v < n.toNat → y.getD v 0 = 1099511627776 ∨ (-10000 * ((j : Int) + 1) ≤ y.getD v 0 ∧ y.getD v 0 ≤ 10000 * ((j : Int) + 1))
section
variable {n : Int} {es : List Arc} {i : Int} {j k : Nat} {x y : List Int}
theorem LongD.start (h0 : 0 ≤ i) (h1 : i < n) : LongD n es i 0 ((List.replicate n.toNat 1099511627776).set i.toNat 0) := by
  have hg : ∀ v : Nat, v < n.toNat → ((List.replicate n.toNat (1099511627776 : Int)).set i.toNat 0).getD v 0 = if v = i.toNat then 0 else 1099511627776 := fun v hv => by
    rw [getD_set _ _ _ _ _ (by simp; omega)]
    split
    · rfl
    · rw [getD_lt _ 0 v (by simpa using hv), List.getElem_replicate]
  refine ⟨by simp, fun v v0 v1 hv => ?_, fun v Y w hW hl => ?_, fun v hv => ?_⟩
  · rw [hg v.toNat (by omega)] at hv ⊢
    by_cases e : v.toNat = i.toNat
    · rw [if_pos e]; exact ⟨[], by simp, show v = i by omega, rfl⟩
    · rw [if_neg e] at hv; omega
  · have : Y = [] := List.eq_nil_of_length_eq_zero (by omega)
    subst this
    obtain ⟨h3, h4⟩ := hW
    rw [h3, hg i.toNat (by omega), if_pos rfl, h4]; exact Int.le_refl _
  · rw [hg v hv]
    split
    · right; omega
    · left; rfl
theorem LongD.round (h : LongD n es i j x) : LongS n es i j x x 0 :=
  ⟨h.len, fun v v0 v1 hv => by obtain ⟨Y, h1, h2⟩ := h.snd v v0 v1 hv; exact ⟨Y, by omega, h2⟩, fun _ => Int.le_refl _, fun m hm => by omega, fun v hv => by rcases h.rng v hv with q | q; exact .inl q; right; omega⟩
theorem LongS.no (h : LongS n es i j x y k) (hno : ¬ x.getD (es.getD k default).src.toNat 0 < 1099511627776) : LongS n es i j x y (k + 1) :=
  ⟨h.len, h.snd, h.le, fun m hm hx => by rcases Nat.lt_succ_iff_lt_or_eq.1 hm with q | q; exact h.done m q hx; subst q; exact absurd hx hno, h.rng⟩
theorem LongS.yes (hA : InR n es) (hok : ∀ a ∈ es, -10000 ≤ a.cap ∧ a.cap ≤ 10000) (hx : LongD n es i j x) (h : LongS n es i j x y k) (hk : k < es.length) (hyes : x.getD (es.getD k default).src.toNat 0 < 1099511627776) :
    LongS n es i j x (y.set (es.getD k default).dst.toNat (min (y.getD (es.getD k default).dst.toNat 0) (x.getD (es.getD k default).src.toNat 0 + (es.getD k default).cap))) (k + 1) := by
  have hm := getD_mem (d := default) hk
  generalize hae : es.getD k default = a at *
  obtain ⟨a1, a2, a3, a4⟩ := hA a hm
  have hcap := hok a hm
  have hl := h.len
  have hg : ∀ v, (y.set a.dst.toNat (min (y.getD a.dst.toNat 0) (x.getD a.src.toNat 0 + a.cap))).getD v 0 = if v = a.dst.toNat then min (y.getD a.dst.toNat 0) (x.getD a.src.toNat 0 + a.cap) else y.getD v 0 := fun v => getD_set _ _ _ _ _ (by omega)
  have hxr := hx.rng a.src.toNat (by omega)
  refine ⟨by rw [List.length_set]; exact hl, fun v v0 v1 hv => ?_, fun v => ?_, fun m hm2 hxm => ?_, fun v hv => ?_⟩
  · rw [hg] at hv ⊢
    by_cases e : v.toNat = a.dst.toNat
    · rw [if_pos e] at hv ⊢
      rcases Int.lt_or_le (x.getD a.src.toNat 0 + a.cap) (y.getD a.dst.toNat 0) with q | q
      · rw [Int.min_eq_right (by omega), show v = a.dst by omega]
        obtain ⟨Y, g1, g2⟩ := hx.snd a.src a1 a2 hyes
        exact ⟨_, by simp; omega, Wl.arc hm g2⟩
      · rw [Int.min_eq_left q] at hv ⊢
        have := h.snd v v0 v1 (by rw [e]; exact hv)
        rwa [e] at this
    · rw [if_neg e] at hv ⊢; exact h.snd v v0 v1 hv
  · rw [hg]
    have := h.le v
    split
    · rename_i e; rw [e] at this ⊢; omega
    · exact this
  · rw [hg]
    rcases Nat.lt_succ_iff_lt_or_eq.1 hm2 with q | q
    · have := h.done m q hxm
      split
      · rename_i e; rw [e] at this; omega
      · exact this
    · subst q
      rw [hae]
      rw [if_pos rfl]; omega
  · rw [hg]
    have := h.rng v hv
    split
    · rename_i e; rw [e] at this; omega
    · exact this
theorem LongS.end_ (hx : LongD n es i j x) (h : LongS n es i j x y k) (hk : es.length ≤ k) (hok : ∀ a ∈ es, -10000 ≤ a.cap ∧ a.cap ≤ 10000) (hj : j ≤ 100) : LongD n es i (j + 1) y := by
  refine ⟨h.len, fun v v0 v1 hv => h.snd v v0 v1 hv, fun v Y w hW hl => ?_, fun v hv => by have := h.rng v hv; omega⟩
  cases Y with
  | nil => exact Int.le_trans (h.le _) (hx.cpl v [] w hW (by simp))
  | cons u Z =>
    obtain ⟨a, ha, rfl, rfl, h3⟩ := hW
    have hxs := hx.cpl _ _ _ h3 (by simp at hl; omega)
    obtain ⟨m, hm, he⟩ := List.mem_iff_getElem.1 ha
    have hem : es.getD m default = a := by rw [getD_lt es default m hm]; exact he
    have hd := h.done m (by omega)
    rw [hem] at hd
    have hwt := (Wl.wt hok h3).2
    have := hd (by simp at hl; omega)
    omega
end
end Go.Ab
