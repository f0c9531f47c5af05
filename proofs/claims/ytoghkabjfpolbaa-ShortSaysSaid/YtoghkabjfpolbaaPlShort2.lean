/- Of ways with lengths, part two: what the program and the reference say of each other. -/
import Derived.Test.YtoghkabjfpolbaaPlShort
namespace Go.Ab
structure LongT (n : Int) (es : List Arc) (D : List (List Int)) : Prop where
  len : D.length = n.toNat
  row : ∀ i : Nat, i < n.toNat → LongD n es i 24 (D.getD i [])
def at3 (D : List (List Int)) (i k : Nat) : Int := (D.getD i []).getD k 0
section
variable {n : Int} {es : List Arc} {S : Int → Prop} {f : List Int} {g : List Bool} {D : List (List Int)}
theorem reach_wk {u v : Int} : (∃ k, wk es k u v = true) ↔ ∃ Y w, Wl es (fun x => x = u) v Y w := by
  constructor
  · rintro ⟨k, hk⟩
    induction k generalizing u with
    | zero => exact ⟨[], 0, (wk_zero.1 hk).symm, rfl⟩
    | succ k ih =>
      obtain ⟨a, ha, rfl, h2⟩ := wk_succ.1 hk
      obtain ⟨Y, w, hY⟩ := ih h2
      have h1 : Wl es (fun x => x = a.src) a.dst [a.src] a.cap := by
        have := Wl.arc (S := fun x => x = a.src) ha (Z := []) (w := 0) ⟨rfl, rfl⟩
        rwa [Int.zero_add] at this
      obtain ⟨Y', h3, _⟩ := h1.join hY
      exact ⟨Y', _, h3⟩
  · rintro ⟨Y, w, hY⟩
    induction Y generalizing v w with
    | nil => exact ⟨0, wk_zero.2 hY.1.symm⟩
    | cons x Y ih =>
      obtain ⟨a, ha, rfl, rfl, h3⟩ := hY
      obtain ⟨k, hk⟩ := ih _ h3
      exact ⟨k + 1, wk_cat (wk_one ha) hk⟩
theorem near_reach (h12 : n ≤ 12) (hA : InR n es) {u v : Nat} (hu : (u : Int) < n) (hv : (v : Int) < n) : ((waysOf n es).getD u []).getD v 0 < 100 ↔ ∃ Y w, Wl es (fun x => x = (u : Int)) v Y w := by
  rw [waysOf_at hu hv, ← reach_wk]
  rcases dist_cases h12 hA (u : Int) (v : Int) with ⟨k, h1, h2, h3, h4⟩ | ⟨h1, h2⟩
  · constructor
    · intro _; exact ⟨k, h3⟩
    · intro _
      obtain ⟨k', g1, g2, g3⟩ := wk_small hA (by omega) hu h3
      have := h4 k' g3
      rw [h1]; omega
  · constructor
    · intro h; rw [h1] at h; omega
    · rintro ⟨k, hk⟩; rw [h2 k] at hk; cases hk
theorem loop_neg (h12 : n ≤ 12) (hA : InR n es) (hS : ∀ x, S x → 0 ≤ x ∧ x < n) (hD : LongT n es D) (h : ¬ NCyc es S) : ∃ b : Nat, b < n.toNat ∧ at3 D b b < 0 ∧ ∃ Z w, Wl es S b Z w := by
  unfold NCyc at h
  rcases Classical.em (∃ b : Nat, b < n.toNat ∧ at3 D b b < 0 ∧ ∃ Z w, Wl es S b Z w) with q | q
  · exact q
  · refine absurd (fun b M w Z w' h1 h2 h3 => ?_) h
    have hin := Wl.in_ hA hS h3 b List.mem_cons_self
    have hin2 := Wl.in_ (S := fun x => x = b) hA (fun x hx => by rw [hx]; exact hin) h2
    have hlen : (b :: M).length ≤ n.toNat := nodup_len2 h1 fun i hi => by
      have := hin2 i (by rcases List.mem_cons.1 hi with r | r; rw [r]; exact List.mem_cons_self; exact List.mem_cons_of_mem _ (List.mem_append_left _ r))
      omega
    rcases Int.lt_or_le w 0 with r | r
    · refine absurd ⟨b.toNat, by omega, ?_, Z, w', by rw [Int.toNat_of_nonneg hin.1]; exact h3⟩ q
      have := (hD.row b.toNat (by omega)).cpl b (M ++ [b]) w (by rw [Int.toNat_of_nonneg hin.1]; exact h2) (by simp at hlen ⊢; omega)
      unfold at3; omega
    · exact r
theorem neg_loop (hA : InR n es) (hS : ∀ x, S x → 0 ≤ x ∧ x < n) (hF : Far n es S f g) (hD : LongT n es D) {b : Nat} (hb : b < n.toNat) (hneg : at3 D b b < 0) {Z : List Int} {w' : Int} (hr : Wl es S b Z w') : False := by
  have hbn : (b : Int) < n := by omega
  obtain ⟨Y, _, hY⟩ := (hD.row b hb).snd b (by omega) hbn (by rw [Int.toNat_natCast]; unfold at3 at hneg; omega)
  rw [Int.toNat_natCast] at hY
  obtain ⟨l1, _⟩ := hF.low b Z w' hr
  obtain ⟨X, hX⟩ := hF.rx.snd b (by omega) hbn l1
  obtain ⟨Y', hY', _⟩ := hX.join hY
  have := (hF.low b Y' _ hY').2
  unfold at3 at hneg; omega
/-- A way that is as short as can be, of few arcs. -/
theorem Far.short (h12 : n ≤ 12) (hA : InR n es) (hS : ∀ x, S x → 0 ≤ x ∧ x < n) (h : Far n es S f g) {v : Int} (v0 : 0 ≤ v) (v1 : v < n) (hg : g.getD v.toNat false = true) : ∃ s Y, S s ∧ Y.length ≤ 24 ∧ Wl es (fun x => x = s) v Y (f.getD v.toNat 0) := by
  obtain ⟨Y, hY⟩ := h.rx.snd v v0 v1 hg
  obtain ⟨Y', w', g1, g2, g3⟩ := reduce (h.ncyc hA hS) (Nat.le_refl _) hY
  have h1 := (h.low v Y' w' g2).2
  have he : w' = f.getD v.toNat 0 := by omega
  have hin := Wl.in_ hA hS g2
  have h3 : (v :: Y').length ≤ n.toNat := nodup_len2 g1 fun i hi => by have := hin i hi; omega
  rw [he] at g2
  obtain ⟨s, hs, hW⟩ := g2.from_
  exact ⟨s, Y', hs, by simp at h3; omega, hW⟩
structure RowOk (n : Int) (x f : List Int) (g : List Bool) : Prop where
  xl : x.length = n.toNat
  fl : f.length = n.toNat
  gl : g.length = n.toNat
  at_ : ∀ k : Nat, k < n.toNat → g.getD k false = decide (x.getD k 0 < 1073741824) ∧ (g.getD k false = true → f.getD k 0 = x.getD k 0) ∧ (g.getD k false = false → f.getD k 0 = 0)
theorem Far.row (h12 : n ≤ 12) (hA : InR n es) (hok : ∀ a ∈ es, -10000 ≤ a.cap ∧ a.cap ≤ 10000) {s : Int} (hs : 0 ≤ s ∧ s < n) (h : Far n es (fun x => x = s) f g) {x : List Int} (hx : LongD n es s 24 x) : RowOk n x f g := by
  have hS : ∀ x, (fun x => x = s) x → 0 ≤ x ∧ x < n := fun x hx => by
    have : x = s := hx
    rw [this]; exact hs
  refine ⟨hx.len, h.rx.fl, h.rx.gl, fun k hk => ?_⟩
  have hkn : (k : Int) < n := by omega
  have hr := hx.rng k hk
  cases e : g.getD k false
  · have hz := h.rx.zero k (by omega) hkn (by rw [Int.toNat_natCast]; exact e)
    rw [Int.toNat_natCast] at hz
    refine ⟨?_, fun q => (by cases q), fun _ => hz⟩
    symm
    rw [decide_eq_false_iff_not]
    intro q
    obtain ⟨Y, _, hY⟩ := hx.snd k (by omega) hkn (by rw [Int.toNat_natCast]; omega)
    have := (h.low _ _ _ hY).1
    rw [Int.toNat_natCast, e] at this
    cases this
  · obtain ⟨s', Y, hs', hl, hW⟩ := h.short h12 hA hS (by omega) hkn (by rw [Int.toNat_natCast]; exact e)
    have hs2 : s' = s := hs'
    rw [hs2, Int.toNat_natCast] at hW
    have h1 := hx.cpl _ _ _ hW hl
    rw [Int.toNat_natCast] at h1
    have h3 := (Wl.wt hok hW).2
    obtain ⟨Y2, _, hY2⟩ := hx.snd k (by omega) hkn (by rw [Int.toNat_natCast]; omega)
    have h2 := (h.low _ _ _ hY2).2
    rw [Int.toNat_natCast] at h2
    refine ⟨?_, fun _ => by omega, fun q => by cases q⟩
    symm
    rw [decide_eq_true_eq]; omega
/-! ### The heights -/
def lowTo (D : List (List Int)) (k : Nat) : Nat → Int
  | 0 => 0
  | m + 1 => min (lowTo D k m) (at3 D m k)
theorem lowTo_le {k : Nat} : ∀ {m s : Nat}, s < m → lowTo D k m ≤ at3 D s k
  | m + 1, s, h => by
    rw [lowTo]
    rcases Nat.lt_succ_iff_lt_or_eq.1 h with q | q
    · have := lowTo_le (k := k) q; omega
    · rw [q]; omega
theorem lowTo_zero {k : Nat} : ∀ {m : Nat}, lowTo D k m ≤ 0
  | 0 => Int.le_refl _
  | m + 1 => by rw [lowTo]; have := lowTo_zero (k := k) (m := m); omega
theorem lowTo_ge {k : Nat} {z : Int} (h0 : z ≤ 0) : ∀ {m : Nat}, (∀ s, s < m → z ≤ at3 D s k) → z ≤ lowTo D k m
  | 0, _ => h0
  | m + 1, h => by
    rw [lowTo]
    have := lowTo_ge (k := k) h0 (m := m) fun s hs => h s (by omega)
    have := h m (by omega)
    omega
theorem Far.height (h12 : n ≤ 12) (hA : InR n es) (hD : LongT n es D) (h : Far n es (fun x => 0 ≤ x ∧ x < n) f g) {k : Nat} (hk : k < n.toNat) : f.getD k 0 = lowTo D k n.toNat := by
  have hS : ∀ x, (fun x => 0 ≤ x ∧ x < n) x → 0 ≤ x ∧ x < n := fun x hx => hx
  have hkn : (k : Int) < n := by omega
  obtain ⟨g1, g2⟩ := h.rx.src k (by omega) hkn ⟨by omega, hkn⟩
  obtain ⟨s, Y, hs, hl, hW⟩ := h.short h12 hA hS (by omega) hkn g1
  rw [Int.toNat_natCast] at g2 hW
  have h1 := (hD.row s.toNat (by omega)).cpl k Y _ (by rw [Int.toNat_of_nonneg hs.1]; exact hW) hl
  rw [Int.toNat_natCast] at h1
  have h2 := lowTo_le (D := D) (k := k) (m := n.toNat) (s := s.toNat) (by omega)
  have h3 : f.getD k 0 ≤ lowTo D k n.toNat := lowTo_ge g2 fun t ht => by
    by_cases q : at3 D t k < 1099511627776
    · obtain ⟨Y2, _, hY2⟩ := (hD.row t ht).snd k (by omega) hkn (by rw [Int.toNat_natCast]; exact q)
      have := (h.low k Y2 _ (hY2.mono fun x hx => by have : x = (t : Int) := hx; omega)).2
      rw [Int.toNat_natCast] at this
      exact this
    · omega
  unfold at3 at h2
  omega
/-! ### What the reference says of round ways -/
def loopsOf (n : Int) (D : List (List Int)) : List Bool := (List.range n.toNat).map fun i => decide (at3 D i i < 0)
theorem loops_at {k : Nat} (hk : k < n.toNat) : (loopsOf n D).getD k false = decide (at3 D k k < 0) := by
  rw [getD_lt (loopsOf n D) false k (by simpa [loopsOf] using hk)]; simp [loopsOf]
def badTo (W D : List (List Int)) (s : Nat) (m : Nat) : Bool := (List.range m).any fun k => decide (at3 D k k < 0) && decide (at3 W s k < 100)
theorem badTo_step (W D : List (List Int)) (s m : Nat) : badTo W D s (m + 1) = (badTo W D s m || (decide (at3 D m m < 0) && decide (at3 W s m < 100))) := by
  unfold badTo; rw [List.range_succ, List.any_append]; simp
theorem bad_no (h12 : n ≤ 12) (hA : InR n es) (hD : LongT n es D) {s : Nat} (hs : (s : Int) < n) (hF : Far n es (fun x => x = (s : Int)) f g) : badTo (waysOf n es) D s n.toNat = false := by
  unfold badTo
  rw [List.any_eq_false]
  intro k hk hc
  rw [Bool.and_eq_true, decide_eq_true_eq, decide_eq_true_eq] at hc
  have hkn := List.mem_range.1 hk
  obtain ⟨Y, w, hY⟩ := (near_reach h12 hA hs (show (k : Int) < n by omega)).1 hc.2
  exact neg_loop hA (fun x hx => by have : x = (s : Int) := hx; omega) hF hD hkn hc.1 hY
theorem bad_yes (h12 : n ≤ 12) (hA : InR n es) (hD : LongT n es D) {s : Nat} (hs : (s : Int) < n) (hB : Better es (fun x => x = (s : Int)) n.toNat) : badTo (waysOf n es) D s n.toNat = true := by
  have hS : ∀ x, (fun x => x = (s : Int)) x → 0 ≤ x ∧ x < n := fun x hx => by have : x = (s : Int) := hx; omega
  obtain ⟨b, h1, h2, Z, w, h3⟩ := loop_neg h12 hA hS hD (hB.cyc hA hS)
  unfold badTo
  rw [List.any_eq_true]
  exact ⟨b, List.mem_range.2 h1, by rw [Bool.and_eq_true, decide_eq_true_eq, decide_eq_true_eq]; exact ⟨h2, (near_reach h12 hA hs (show (b : Int) < n by omega)).2 ⟨Z, w, h3⟩⟩⟩
theorem loops_no (hA : InR n es) (hD : LongT n es D) (hF : Far n es (fun x => 0 ≤ x ∧ x < n) f g) : ∀ k : Nat, k < n.toNat → (loopsOf n D).getD k false = false := fun k hk => by
  rw [loops_at hk, decide_eq_false_iff_not]
  intro hc
  exact neg_loop hA (fun x hx => hx) hF hD hk hc (Z := []) (w' := 0) ⟨⟨by omega, by omega⟩, rfl⟩
theorem loops_yes (h12 : n ≤ 12) (hA : InR n es) (hD : LongT n es D) (hB : Better es (fun x => 0 ≤ x ∧ x < n) n.toNat) : ∃ k : Nat, k < n.toNat ∧ (loopsOf n D).getD k false = true := by
  obtain ⟨b, h1, h2, _⟩ := loop_neg h12 hA (fun x hx => hx) hD (hB.cyc hA fun x hx => hx)
  exact ⟨b, h1, by rw [loops_at h1]; exact decide_eq_true h2⟩
theorem far_from (hA : InR n es) (hF : Far n es (fun x => 0 ≤ x ∧ x < n) f g) {s : Int} (hs : 0 ≤ s ∧ s < n) : ¬ Better es (fun x => x = s) n.toNat := fun hB => by
  have hS : ∀ x, (fun x => x = s) x → 0 ≤ x ∧ x < n := fun x hx => by have : x = s := hx; rw [this]; exact hs
  refine hB.cyc hA hS fun b M w Z w' h1 h2 h3 => ?_
  exact hF.ncyc hA (fun x hx => hx) b M w Z w' h1 h2 (h3.mono hS)
/-! ### The start -/
theorem Rx.one {s : Int} (hs : 0 ≤ s ∧ s < n) : Rx n es (fun x => x = s) (List.replicate n.toNat 0) ((List.replicate n.toNat false).set s.toNat true) := by
  have hg : ∀ v : Nat, ((List.replicate n.toNat false).set s.toNat true).getD v false = decide (v = s.toNat) := fun v => by
    rw [getD_set _ _ _ _ _ (by simp; omega)]
    by_cases e : v = s.toNat
    · rw [if_pos e]; exact (decide_eq_true e).symm
    · rw [if_neg e, decide_eq_false e]
      by_cases q : v < n.toNat
      · rw [getD_lt _ false v (by simpa using q), List.getElem_replicate]
      · exact getD_ge _ _ _ (by simp; omega)
  have hz : ∀ v : Nat, (List.replicate n.toNat (0 : Int)).getD v 0 = 0 := fun v => by
    by_cases q : v < n.toNat
    · rw [getD_lt _ 0 v (by simpa using q), List.getElem_replicate]
    · exact getD_ge _ _ _ (by simp; omega)
  refine ⟨by simp, by simp, fun v v0 v1 hv => ?_, fun v v0 v1 hv => ?_, fun v _ _ _ => hz _⟩
  · have : v = s := hv
    rw [hg, hz]; exact ⟨decide_eq_true (by omega), Int.le_refl _⟩
  · rw [hg, decide_eq_true_eq] at hv
    exact ⟨[], show v = s by omega, hz _⟩
theorem Rx.all {g : List Bool} (hl : g.length = n.toNat) (h : ∀ v : Nat, v < n.toNat → g.getD v false = true) : Rx n es (fun x => 0 ≤ x ∧ x < n) (List.replicate n.toNat 0) g := by
  have hz : ∀ v : Nat, (List.replicate n.toNat (0 : Int)).getD v 0 = 0 := fun v => by
    by_cases q : v < n.toNat
    · rw [getD_lt _ 0 v (by simpa using q), List.getElem_replicate]
    · exact getD_ge _ _ _ (by simp; omega)
  exact ⟨by simp, hl, fun v v0 v1 _ => by rw [hz]; exact ⟨h _ (by omega), Int.le_refl _⟩, fun v v0 v1 _ => ⟨[], ⟨v0, v1⟩, hz _⟩, fun v _ _ _ => hz _⟩
theorem Rx.cpl0 (h : Rx n es S f g) (hS : ∀ x, S x → 0 ≤ x ∧ x < n) : Cpl n es S f g 0 := by
  intro v Y w hW hl
  have : Y = [] := List.eq_nil_of_length_eq_zero (by omega)
  subst this
  obtain ⟨h1, h2⟩ := hW
  obtain ⟨v0, v1⟩ := hS v h1
  obtain ⟨s1, s2⟩ := h.src v v0 v1 h1
  exact ⟨s1, by omega⟩
theorem Bnd.zero {m : Nat} : Bnd (List.replicate m 0) 0 := fun v => by
  by_cases q : v < m
  · rw [getD_lt _ 0 v (by simpa using q), List.getElem_replicate]; omega
  · rw [getD_ge _ _ _ (by simp; omega)]; omega
theorem Bnd.set {f : List Int} {c x : Int} {i : Nat} (h : Bnd f c) (hx : -(c + 10000) ≤ x ∧ x ≤ c + 10000) : Bnd (f.set i x) (c + 10000) := fun v => by
  by_cases q : i < f.length
  · rw [getD_set _ _ _ _ _ q]
    split
    · exact hx
    · have := h v; omega
  · rw [List.set_eq_of_length_le (by omega)]; have := h v; omega
/-! ### What the program's functions return -/
def FromOk (n : Int) (es : List Arc) (s : Int) (f : List Int) (g : List Bool) (e : Int) : Prop :=
  (graphErr n es (-10000) ≠ 0 ∧ e = graphErr n es (-10000) ∧ f = [] ∧ g = []) ∨ (graphErr n es (-10000) = 0 ∧ ¬ (0 ≤ s ∧ s < n) ∧ e = 4 ∧ f = [] ∧ g = []) ∨
  (graphErr n es (-10000) = 0 ∧ (0 ≤ s ∧ s < n) ∧ e = 6 ∧ f = [] ∧ g = [] ∧ Better es (fun x => x = s) n.toNat) ∨ (graphErr n es (-10000) = 0 ∧ (0 ≤ s ∧ s < n) ∧ e = 0 ∧ Far n es (fun x => x = s) f g)
def HeightOk (n : Int) (es : List Arc) (f : List Int) (e : Int) : Prop :=
  (graphErr n es (-10000) ≠ 0 ∧ e = graphErr n es (-10000) ∧ f = []) ∨ (graphErr n es (-10000) = 0 ∧ e = 6 ∧ f = [] ∧ Better es (fun x => 0 ≤ x ∧ x < n) n.toNat) ∨
  (graphErr n es (-10000) = 0 ∧ e = 0 ∧ ∃ g, Far n es (fun x => 0 ≤ x ∧ x < n) f g)
def AllOk (n : Int) (es : List Arc) (A : List (List Int)) (K : List (List Bool)) (e : Int) : Prop :=
  (graphErr n es (-10000) ≠ 0 ∧ e = graphErr n es (-10000) ∧ A = [] ∧ K = []) ∨ (graphErr n es (-10000) = 0 ∧ e = 6 ∧ A = [] ∧ K = [] ∧ Better es (fun x => 0 ≤ x ∧ x < n) n.toNat) ∨
  (graphErr n es (-10000) = 0 ∧ e = 0 ∧ (∃ f g, Far n es (fun x => 0 ≤ x ∧ x < n) f g) ∧ A.length = n.toNat ∧ K.length = n.toNat ∧ ∀ s : Nat, s < n.toNat → Far n es (fun x => x = (s : Int)) (A.getD s []) (K.getD s []))
theorem from_good (hA : InR n es) (hF : Far n es (fun x => 0 ≤ x ∧ x < n) f g) (hE : graphErr n es (-10000) = 0) {s : Int} (hs : 0 ≤ s ∧ s < n) {f2 : List Int} {g2 : List Bool} {e : Int} (h : FromOk n es s f2 g2 e) : Far n es (fun x => x = s) f2 g2 := by
  rcases h with ⟨q, _⟩ | ⟨_, q, _⟩ | ⟨_, _, _, _, _, q⟩ | ⟨_, _, _, q⟩
  · exact absurd hE q
  · exact absurd hs q
  · exact absurd q (far_from hA hF hs)
  · exact q
theorem snoc_get {α : Type} {d : α} {x : α} {l : List α} {s : Nat} : (l ++ [x]).getD s d = if s < l.length then l.getD s d else if s = l.length then x else d := by
  by_cases h : s < l.length
  · rw [if_pos h, List.getD_eq_getElem?_getD, List.getElem?_append_left h, List.getD_eq_getElem?_getD]
  · rw [if_neg h]
    by_cases e : s = l.length
    · rw [if_pos e, e, List.getD_eq_getElem?_getD, List.getElem?_append_right (Nat.le_refl _)]; simp
    · rw [if_neg e, getD_ge _ _ _ (by simp; omega)]
end
end Go.Ab
