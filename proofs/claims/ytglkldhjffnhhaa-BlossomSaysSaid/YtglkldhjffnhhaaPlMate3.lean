/- Of pairs of any who go together, with arcs and sets that are numbers: the plain laws. -/
import Derived.Test.YtglkldhjffnhhaaPlMate2
import Derived.Test.YtglkldhjffnhhaaPlSides
import Derived.Test.YtglkldhjffnhhaaPlA
import Derived.Test.YtglkldhjffnhhaaPlA
namespace Go.Ab
def poolErr (n : Int) (es : List Arc) : Int := if graphErr n es (-10000) ≠ 0 then graphErr n es (-10000) else if n > 9 then 2 else 0
def prOf (a : Arc) : Pr := (a.src.toNat, a.dst.toNat)
def prsOf (es : List Arc) : List Pr := es.map prOf
theorem prs_mem {es : List Arc} {a : Arc} (h : a ∈ es) : prOf a ∈ prsOf es := List.mem_map_of_mem h
def nuZ (es : List Arc) (z : Int) : Int := ((nu (prsOf es) (has z) : Nat) : Int)
def freeP (n : Nat) (z : Int) : Nat → Bool := fun v => decide (v < n) && !has z v
def nuF (n : Int) (es : List Arc) (z : Int) : Int := ((nu (prsOf es) (freeP n.toNat z) : Nat) : Int)
theorem freeP_iff {n : Nat} {z : Int} {v : Nat} : freeP n z v = true ↔ v < n ∧ has z v = false := by unfold freeP; simp
theorem nuF_full (n : Int) (es : List Arc) : nuF n es 0 = nuZ es (1 * 2 ^ n.toNat - 1) := by
  unfold nuF nuZ
  congr 2
  funext v
  rw [has_mask]; unfold freeP; rw [has_zero]; simp
theorem nuZ_0 (es : List Arc) : nuZ es 0 = 0 := by
  unfold nuZ
  obtain ⟨M, h1, h2⟩ := nu_ex (prsOf es) (has 0)
  cases M with
  | nil => rw [← h2]; rfl
  | cons e M => have := h1.in_ e.1 (mem_vs.2 ⟨e, List.mem_cons_self, .inl rfl⟩); rw [has_zero] at this; cases this
theorem len_le {es : List Pr} {n : Nat} {p : Nat → Bool} (hp : ∀ v, p v = true → v < n) : 2 * nu es p ≤ n := by
  obtain ⟨M, h1, h2⟩ := nu_ex es p
  have h3 := nodup_len (l := vsM M) (m := List.range n) h1.nd fun x hx => List.mem_range.2 (hp x (h1.in_ x hx))
  rw [vs_len, List.length_range] at h3
  omega
theorem nuZ_in {es : List Arc} {z : Int} {n : Nat} (h0 : 0 ≤ z) (h1 : z < ((2 ^ n : Nat) : Int)) : 0 ≤ nuZ es z ∧ 2 * nuZ es z ≤ n := by
  have := len_le (es := prsOf es) (n := n) (p := has z) fun v hv => by
    by_cases q : v < n
    · exact q
    · rw [has_lt h0 h1 (by omega)] at hv; cases hv
  unfold nuZ
  omega
theorem nuF_in {es : List Arc} {n : Int} (z : Int) (h0 : 0 ≤ n) : 0 ≤ nuF n es z ∧ 2 * nuF n es z ≤ n := by
  have := len_le (es := prsOf es) (n := n.toNat) (p := freeP n.toNat z) fun v hv => (freeP_iff.1 hv).1
  unfold nuF
  omega
theorem has_del {z : Int} {v : Nat} : has (iandn z (1 * 2 ^ v)) = delP (has z) v := by
  funext w
  rw [has_iandn, has_pow]; unfold delP
  by_cases h : v = w
  · subst h; simp
  · rw [decide_eq_false h, decide_eq_false (Ne.symm h)]
theorem has_cut {z : Int} {u v : Nat} : has (iandn z (ior (1 * 2 ^ u) (1 * 2 ^ v))) = cutP (has z) (u, v) := by
  funext w
  rw [has_iandn, has_ior, has_pow, has_pow]; unfold cutP delP
  by_cases h : u = w
  · subst h; simp
  · by_cases h2 : v = w
    · subst h2; simp
    · rw [decide_eq_false h, decide_eq_false h2, decide_eq_false (show ¬ w = (u, v).1 from Ne.symm h), decide_eq_false (show ¬ w = (u, v).2 from Ne.symm h2)]; simp
theorem free_del {n : Nat} {z : Int} {v : Nat} : freeP n (ior z (1 * 2 ^ v)) = delP (freeP n z) v := by
  funext w
  unfold freeP delP
  rw [has_ior, has_pow]
  by_cases h : v = w
  · subst h; simp
  · rw [decide_eq_false h, decide_eq_false (Ne.symm h)]; simp
theorem free_cut {n : Nat} {z : Int} {u v : Nat} : freeP n (ior (ior z (1 * 2 ^ u)) (1 * 2 ^ v)) = cutP (freeP n z) (u, v) := by
  rw [free_del, free_del]; rfl
theorem cutP_swap {p : Nat → Bool} {u v : Nat} : cutP p (u, v) = cutP p (v, u) := by
  funext w
  show (p w && !decide (w = u) && !decide (w = v)) = (p w && !decide (w = v) && !decide (w = u))
  cases p w <;> cases decide (w = u) <;> cases decide (w = v) <;> rfl
/-! ### The greatest number of pairs, by the least node -/
structure Upto (es : List Arc) (p : Nat → Bool) (low : Nat) (i : Nat) (b : Int) : Prop where
  lo : ((nu (prsOf es) (delP p low) : Nat) : Int) ≤ b
  hi : b ≤ ((nu (prsOf es) p : Nat) : Int)
  arcs : ∀ j, j < i → inP p (prOf (es.getD j default)) → (low = (prOf (es.getD j default)).1 ∨ low = (prOf (es.getD j default)).2) → 1 + ((nu (prsOf es) (cutP p (prOf (es.getD j default))) : Nat) : Int) ≤ b
theorem Upto.start (es : List Arc) (p : Nat → Bool) (low : Nat) : Upto es p low 0 ((nu (prsOf es) (delP p low) : Nat) : Int) :=
  ⟨Int.le_refl _, by have := nu_mono (es := prsOf es) (p := delP p low) (q := p) fun w hw => (delP_iff.1 hw).1; omega, fun j hj => by omega⟩
/-- What the code asks of an arc. -/
theorem touch_yes {a : Arc} {p : Nat → Bool} {low : Nat} {o : Int} (h1 : 0 ≤ a.src) (h2 : 0 ≤ a.dst) (ho : o = a.src + a.dst - low) (ht : a.src = low ∨ a.dst = low) (hne : o ≠ low) (hl : p low = true) (hp : p o.toNat = true) :
    inP p (prOf a) ∧ cutP p (low, o.toNat) = cutP p (prOf a) := by
  unfold prOf
  rcases ht with ht | ht
  · have e1 : a.src.toNat = low := by omega
    have e2 : o = a.dst := by omega
    subst e2
    refine ⟨⟨?_, ?_, hp⟩, by rw [e1]⟩
    · show a.src.toNat ≠ a.dst.toNat; omega
    · show p a.src.toNat = true; rw [e1]; exact hl
  · have e1 : a.dst.toNat = low := by omega
    have e2 : o = a.src := by omega
    subst e2
    refine ⟨⟨?_, hp, ?_⟩, by rw [cutP_swap, e1]⟩
    · show a.src.toNat ≠ a.dst.toNat; omega
    · show p a.dst.toNat = true; rw [e1]; exact hl
theorem touch_no {a : Arc} {p : Nat → Bool} {low : Nat} {o : Int} (h1 : 0 ≤ a.src) (h2 : 0 ≤ a.dst) (ho : o = a.src + a.dst - low) (hn : ¬ ((a.src = low ∨ a.dst = low) ∧ o ≠ low ∧ p o.toNat = true)) (hi : inP p (prOf a)) (ht : low = (prOf a).1 ∨ low = (prOf a).2) : False := by
  unfold prOf at hi ht
  obtain ⟨i1, i2, i3⟩ := hi
  simp only at i1 i2 i3 ht
  rcases ht with ht | ht
  · have e2 : o = a.dst := by omega
    exact hn ⟨.inl (by omega), by omega, by rw [e2]; exact i3⟩
  · have e2 : o = a.src := by omega
    exact hn ⟨.inr (by omega), by omega, by rw [e2]; exact i2⟩
theorem Upto.yes {es : List Arc} {p : Nat → Bool} {low i : Nat} {b b' : Int} (h : Upto es p low i b) (hi : i < es.length) (hin : inP p (prOf (es.getD i default))) (hb : b' = max b (1 + ((nu (prsOf es) (cutP p (prOf (es.getD i default))) : Nat) : Int))) : Upto es p low (i + 1) b' := by
  have h1 := h.lo
  have h2 := h.hi
  have h3 := nu_arc (prs_mem (getD_mem (d := default) hi)) hin
  refine ⟨by omega, by omega, fun j hj a b => ?_⟩
  by_cases q : j = i
  · subst q; omega
  · have := h.arcs j (by omega) a b; omega
theorem Upto.no {es : List Arc} {p : Nat → Bool} {low i : Nat} {b : Int} (h : Upto es p low i b) (hn : inP p (prOf (es.getD i default)) → (low = (prOf (es.getD i default)).1 ∨ low = (prOf (es.getD i default)).2) → False) : Upto es p low (i + 1) b :=
  ⟨h.lo, h.hi, fun j hj a c => by
    by_cases q : j = i
    · subst q; exact (hn a c).elim
    · exact h.arcs j (by omega) a c⟩
theorem Upto.end_ {es : List Arc} {p : Nat → Bool} {low i : Nat} {b : Int} (h : Upto es p low i b) (hi : es.length ≤ i) : b = ((nu (prsOf es) p : Nat) : Int) := by
  have h1 := h.lo
  have h2 := h.hi
  rcases nu_low (es := prsOf es) (p := p) low with q | ⟨e, q1, q2, q3, q4⟩
  · omega
  · obtain ⟨a, ha, rfl⟩ := List.mem_map.1 q1
    obtain ⟨j, hj, rfl⟩ := List.getElem_of_mem ha
    have := h.arcs j (by omega) (by rw [getD_lt es default j hj]; exact q2) (by rw [getD_lt es default j hj]; exact q3)
    rw [getD_lt es default j hj] at this
    omega
theorem low_ex {z : Int} {n low : Nat} (h0 : 1 ≤ z) (h1 : z < ((2 ^ n : Nat) : Int)) (hl : ∀ v, v < low → has z v = false) : low < n := by
  refine Classical.byContradiction fun hc => ?_
  have : z = 0 := side_ext (by omega) (Int.le_refl _) fun v => by
    rw [has_zero]
    by_cases q : v < low
    · exact hl v q
    · exact has_lt (by omega) h1 (by omega)
  omega
theorem iandn_lt {z : Int} {y : Int} {v : Nat} (h0 : 0 ≤ z) (hv : has z v = true) (hy : has y v = true) : iandn z y < z := by
  have h3 : has (iandn z y) v = false := by rw [has_iandn, hv, hy]; rfl
  unfold iandn at h3 ⊢
  have h1 : (z.toNat ^^^ (z.toNat &&& y.toNat)) = z.toNat &&& (z.toNat ^^^ (z.toNat &&& y.toNat)) := by
    apply Nat.eq_of_testBit_eq
    intro i
    rw [Nat.testBit_and, Nat.testBit_xor, Nat.testBit_and]
    cases z.toNat.testBit i <;> cases y.toNat.testBit i <;> rfl
  have h2 : (z.toNat ^^^ (z.toNat &&& y.toNat)) ≤ z.toNat := by rw [h1]; exact Nat.and_le_left
  have h4 : (z.toNat ^^^ (z.toNat &&& y.toNat)) ≠ z.toNat := fun q => by
    rw [q] at h3
    unfold has at h3 hv
    rw [Int.toNat_natCast, hv] at h3; cases h3
  omega
end Go.Ab
