/- Of graphs by how many stand at each node: what the walks ask for: the plain laws. -/
import Derived.Test.YtglkldhjffnhhaaPlDegree2
namespace Go.Ab
theorem lsum_bd {f : Int → Int} {m : Int} : ∀ {l : List Int}, (∀ x ∈ l, 0 ≤ f x ∧ f x ≤ m) → 0 ≤ lsum f l ∧ lsum f l ≤ m * (l.length : Int)
  | [], _ => by simp [lsum]
  | x :: r, h => by
    have h1 := h x List.mem_cons_self
    have h2 := lsum_bd (l := r) fun y hy => h y (List.mem_cons_of_mem _ hy)
    rw [lsum, List.length_cons, show ((r.length + 1 : Nat) : Int) = (r.length : Int) + 1 from rfl, Int.mul_add]
    omega
theorem desc_in {l : List Int} (h : degErr l = 0) : ∀ x ∈ descOf l, 0 ≤ x ∧ x ≤ 11 := fun x hx => by
  obtain ⟨h1, h2⟩ := degErr_ok h
  have := h2 x ((desc_perm l).mem_iff.1 hx)
  omega
theorem desc_at {l : List Int} (h : degErr l = 0) {i : Nat} (hi : i < l.length) : 0 ≤ (descOf l).getD i 0 ∧ (descOf l).getD i 0 ≤ 11 := desc_in h _ (getD_mem (by rw [desc_len]; exact hi))
theorem addL_in {l : List Int} (h : degErr l = 0) (i : Nat) : 0 ≤ addL ((descOf l).take i) ∧ addL ((descOf l).take i) ≤ 132 := by
  have h1 := lsum_bd (f := fun x => x) (m := 11) (l := (descOf l).take i) fun x hx => desc_in h x (List.mem_of_mem_take hx)
  have h2 := (degErr_ok h).1
  rw [List.length_take, desc_len] at h1
  unfold addL
  omega
theorem addMin_in {l : List Int} (h : degErr l = 0) (m i j : Nat) : 0 ≤ addMin (m : Int) (((descOf l).drop i).take j) ∧ addMin (m : Int) (((descOf l).drop i).take j) ≤ 132 := by
  have h1 := lsum_bd (f := fun x => min x (m : Int)) (m := 11) (l := ((descOf l).drop i).take j) fun x hx => by
    have := desc_in h x (List.mem_of_mem_drop (List.mem_of_mem_take hx))
    omega
  have h2 := (degErr_ok h).1
  rw [List.length_take, List.length_drop, desc_len] at h1
  unfold addMin
  omega
theorem addL_step {l : List Int} {i : Nat} (h : i < l.length) : addL ((descOf l).take (i + 1)) = addL ((descOf l).take i) + (descOf l).getD i 0 := by
  rw [take_snoc (by rw [desc_len]; exact h), addL_snoc]
theorem addMin_step {l : List Int} {m : Int} {i j : Nat} (h : i + j < l.length) : addMin m (((descOf l).drop i).take (j + 1)) = addMin m (((descOf l).drop i).take j) + min ((descOf l).getD (i + j) 0) m := by
  have e : ((descOf l).drop i).getD j 0 = (descOf l).getD (i + j) 0 := by simp only [List.getD_eq_getElem?_getD, List.getElem?_drop]
  rw [take_snoc (by rw [List.length_drop, desc_len]; omega), addMin_snoc, e]
theorem line_cast (l : List Int) (k : Nat) : egLine l k ↔ addL ((descOf l).take (k + 1)) ≤ ((k * (k + 1) : Nat) : Int) + addMin ((k + 1 : Nat) : Int) ((descOf l).drop (k + 1)) := by
  unfold egLine
  rw [Int.natCast_mul]
  exact Iff.rfl
theorem canB_bad {l : List Int} (h : degErr l ≠ 0) : canB l = false := by unfold canB; rw [decide_eq_false h]; rfl
theorem deg_nn {l : List Int} (h : degErr l = 0) : ∀ x ∈ l, 0 ≤ x := fun x hx => ((degErr_ok h).2 x hx).1
theorem canB_line {l : List Int} (h : degErr l = 0) {k : Nat} (hk : k < l.length) (hl : ¬ egLine l k) : canB l = false := by
  unfold canB
  rw [decide_eq_true h, Bool.true_and]
  cases e : (standRes l).isSome
  · rfl
  · exact absurd (((can_iff (deg_nn h)).1 e).1 k hk) hl
theorem canB_end {l : List Int} (h : degErr l = 0) (hl : ∀ k, k < l.length → egLine l k) : canB l = decide (Int.tmod (addL (descOf l)) 2 = 0) := by
  unfold canB
  rw [decide_eq_true h, Bool.true_and]
  have h1 := can_iff (deg_nn h)
  have h2 := (addL_in h l.length).1
  rw [List.take_of_length_le (by rw [desc_len]; exact Nat.le_refl _)] at h2
  rw [Int.tmod_eq_emod_of_nonneg h2]
  by_cases q : addL (descOf l) % 2 = 0
  · rw [decide_eq_true q, h1.2 ⟨hl, q⟩]
  · rw [decide_eq_false q]
    cases e : (standRes l).isSome
    · rfl
    · exact absurd (h1.1 e).2 q
def makeErrD (l : List Int) : Int := if degErr l ≠ 0 then degErr l else if (standRes l).isSome = true then 0 else 5
def standL (l : List Int) : List Arc := (standRes l).getD []
theorem makeD_bad {l : List Int} (h : degErr l ≠ 0) : makeErrD l = degErr l := by rw [makeErrD, if_pos h]
theorem makeD_none {l : List Int} (h : degErr l = 0) (h2 : canB l = false) : makeErrD l = 5 := by
  unfold canB at h2
  rw [decide_eq_true h, Bool.true_and] at h2
  rw [makeErrD, if_neg (by omega), if_neg (by rw [h2]; decide)]
theorem makeD_ok {l : List Int} (h : degErr l = 0) (h2 : canB l = true) : makeErrD l = 0 ∧ (standRes l).isSome = true := by
  unfold canB at h2
  rw [decide_eq_true h, Bool.true_and] at h2
  exact ⟨by rw [makeErrD, if_neg (by omega), if_pos h2], h2⟩
/-! ### The rounds -/
structure StInv (l : List Int) (i : Nat) (X : List Int) (acc : List Arc) : Prop where
  len : X.length = l.length
  go : standGo (l.length - i) i X acc = standRes l
  in_ : ∀ u, u < l.length → 0 ≤ X.getD u 0 ∧ X.getD u 0 ≤ 11
  al : acc.length ≤ 12 * i
theorem StInv.start {l : List Int} (h : degErr l = 0) : StInv l 0 l [] where
  len := rfl
  go := rfl
  in_ u hu := by
    obtain ⟨h1, h2⟩ := degErr_ok h
    have := h2 _ (getD_mem (d := 0) hu)
    omega
  al := by simp
theorem StInv.stop {l X : List Int} {i : Nat} {acc : List Arc} (h : StInv l i X acc) (hi : i < l.length) (hb : badD X i = true) : standRes l = none := by
  have := h.go
  rw [show l.length - i = (l.length - (i + 1)) + 1 by omega, standGo, if_pos hb] at this
  exact this.symm
theorem StInv.good {l X : List Int} {i : Nat} {acc : List Arc} (h : StInv l i X acc) (hi : i < l.length) (hs : (standRes l).isSome = true) : badD X i = false := by
  cases e : badD X i
  · rfl
  · rw [h.stop hi e] at hs; cases hs
theorem StInv.next {l X Y : List Int} {i : Nat} {acc : List Arc} (h : StInv l i X acc) (hi : i < l.length) (hb : badD X i = false) (hl : l.length ≤ 12) (hY : Y = lessOf X (pickD X i)) : StInv l (i + 1) Y (acc ++ arcsD i (pickD X i)) where
  len := by rw [hY, less_len]; exact h.len
  go := by
    have := h.go
    rw [show l.length - i = (l.length - (i + 1)) + 1 by omega, standGo, if_neg (by rw [hb]; decide)] at this
    rw [hY]; exact this
  in_ u hu := by
    have h1 := h.in_ u hu
    rw [hY, less_at (by rw [h.len]; exact hu)]
    by_cases q : (u : Int) ∈ pickD X i
    · have := (badD_no hb).2 _ q
      rw [Int.toNat_natCast] at this
      rw [if_pos q]; omega
    · rw [if_neg q]; omega
  al := by
    have h1 := h.al
    have h2 := ordD_len X i
    have h3 := h.len
    rw [List.length_append, arcsD_len]
    unfold pickD
    rw [List.length_take]
    omega
structure TakenD (X Y : List Int) (i j : Nat) : Prop where
  len : Y.length = X.length
  at_ : ∀ k : Nat, k < X.length → Y.getD k 0 = X.getD k 0 - if (k : Int) ∈ (ordD X i).take j then 1 else 0
theorem TakenD.start (X : List Int) (i : Nat) : TakenD X X i 0 := ⟨rfl, fun k _ => by simp⟩
theorem TakenD.now {X Y : List Int} {i j : Nat} (h : TakenD X Y i j) (hj : j < (ordD X i).length) : Y.getD ((ordD X i).getD j 0).toNat 0 = X.getD ((ordD X i).getD j 0).toNat 0 := by
  have h1 := ordD_at hj
  rw [h.at_ _ (by omega), if_neg]
  · omega
  · rw [Int.toNat_of_nonneg (by omega)]; exact not_take (ordD_nodup X i) hj (Nat.le_refl _)
theorem TakenD.step {X Y : List Int} {i j : Nat} (h : TakenD X Y i j) (hj : j < (ordD X i).length) : TakenD X (Y.set ((ordD X i).getD j 0).toNat (Y.getD ((ordD X i).getD j 0).toNat 0 - 1)) i (j + 1) := by
  have h1 := ordD_at hj
  have ht := take_snoc hj
  refine ⟨by rw [List.length_set]; exact h.len, fun k hk => ?_⟩
  by_cases q : k = ((ordD X i).getD j 0).toNat
  · rw [q, getD_set_self _ _ _ _ (by rw [h.len]; omega), h.now hj, if_pos]
    rw [ht, Int.toNat_of_nonneg (by omega)]; exact List.mem_append_right _ List.mem_cons_self
  · rw [getD_set_ne _ _ _ _ _ (Ne.symm q), h.at_ k hk]
    have : (k : Int) ∈ (ordD X i).take (j + 1) ↔ (k : Int) ∈ (ordD X i).take j := by
      rw [ht, List.mem_append, List.mem_singleton]
      constructor
      · rintro (e | e)
        · exact e
        · omega
      · exact .inl
    by_cases q2 : (k : Int) ∈ (ordD X i).take j
    · rw [if_pos q2, if_pos (this.2 q2)]
    · rw [if_neg q2, if_neg (fun e => q2 (this.1 e))]
theorem TakenD.end_ {X Y : List Int} {i j : Nat} (h : TakenD X Y i j) (hj : j = (X.getD i 0).toNat) : Y = lessOf X (pickD X i) := by
  subst hj
  exact list_ext 0 (by rw [h.len, less_len]) (fun k hk => by rw [h.at_ k (by rw [← h.len]; exact hk), less_at (by rw [← h.len]; exact hk)]; rfl)
theorem arcsD_snoc (i : Nat) (es : List Int) (x : Int) : arcsD i (es ++ [x]) = arcsD i es ++ [⟨(i : Int), x, 0⟩] := by simp [arcsD]
theorem others_snoc {i n q : Nat} (h : i + 1 + q < n) : (othersOf i n).take (q + 1) = (othersOf i n).take q ++ [((i + 1 + q : Nat) : Int)] := by
  rw [take_snoc (by rw [others_len]; omega), others_at h]
/-- The best of the first nodes behind i that are not taken and miss any. -/
def Best2 (X : List Int) (z : Int) (i k : Nat) (b : Int) : Prop := (b = -1 ∧ ∀ v : Nat, i < v → v < k → has z v = false → X.getD v 0 ≤ 0) ∨ ((i : Int) < b ∧ b < k ∧ has z b.toNat = false ∧ 0 < X.getD b.toNat 0 ∧ ∀ v : Nat, i < v → v < k → has z v = false → 0 < X.getD v 0 → leG X b v = true)
theorem Best2.start (X : List Int) (z : Int) (i : Nat) : Best2 X z i (i + 1) (-1) := .inl ⟨rfl, fun v h1 h2 => by omega⟩
theorem Best2.in_ {X : List Int} {z : Int} {i k : Nat} {b : Int} (h : Best2 X z i k b) (hk : i < k) : -1 ≤ b ∧ b < k := by
  rcases h with ⟨h, _⟩ | ⟨h1, h2, _⟩ <;> omega
theorem Best2.yes {X : List Int} {z : Int} {i k : Nat} {b : Int} (h : Best2 X z i k b) (hik : i < k) (hk : has z k = false) (hp : 0 < X.getD k 0) (hc : b < 0 ∨ X.getD b.toNat 0 < X.getD k 0) : Best2 X z i (k + 1) (k : Int) := by
  refine .inr ⟨by omega, by omega, by rw [Int.toNat_natCast]; exact hk, by rw [Int.toNat_natCast]; exact hp, fun v hv hvk hz hpv => ?_⟩
  by_cases q : v = k
  · subst q; exact decide_eq_true (.inr ⟨rfl, by omega⟩)
  · rcases h with ⟨_, h2⟩ | ⟨h1, _, _, _, h4⟩
    · have := h2 v hv (by omega) hz; omega
    · have := of_decide_eq_true (h4 v hv (by omega) hz hpv)
      rw [Int.toNat_natCast] at this
      refine decide_eq_true ?_
      rw [Int.toNat_natCast, Int.toNat_natCast]
      omega
theorem Best2.no {X : List Int} {z : Int} {i k : Nat} {b : Int} (h : Best2 X z i k b) (hc : has z k = true ∨ X.getD k 0 ≤ 0 ∨ (0 ≤ b ∧ X.getD k 0 ≤ X.getD b.toNat 0)) : Best2 X z i (k + 1) b := by
  rcases h with ⟨h1, h2⟩ | ⟨h1, h2, h3, h5, h4⟩
  · refine .inl ⟨h1, fun v hv hvk hz => ?_⟩
    by_cases q : v = k
    · subst q
      rcases hc with hc | hc | hc
      · rw [hc] at hz; cases hz
      · exact hc
      · omega
    · exact h2 v hv (by omega) hz
  · refine .inr ⟨h1, by omega, h3, h5, fun v hv hvk hz hpv => ?_⟩
    by_cases q : v = k
    · subst q
      rcases hc with hc | hc | hc
      · rw [hc] at hz; cases hz
      · omega
      · refine decide_eq_true ?_
        rw [Int.toNat_natCast]
        omega
    · exact h4 v hv (by omega) hz hpv
theorem ordD_take_has {X : List Int} {i j : Nat} {z : Int} (hz : z = setOf ((ordD X i).take j)) (v : Nat) : has z v = decide ((v : Int) ∈ (ordD X i).take j) := by
  rw [hz]
  exact has_set fun x hx => by have := ordD_mem.1 (List.mem_of_mem_take hx); omega
theorem Best2.none_ {X : List Int} {z b : Int} {i j : Nat} (h : Best2 X z i X.length b) (hz : z = setOf ((ordD X i).take j)) (hb : b < 0) (hj : (j : Int) < X.getD i 0) : badD X i = true := by
  unfold badD
  rcases h with ⟨_, h2⟩ | ⟨h1, _⟩
  · by_cases q : j < (ordD X i).length
    · have h1 := ordD_at q
      rw [Bool.or_eq_true]
      right
      refine List.any_eq_true.2 ⟨(ordD X i).getD j 0, mem_take_iff.2 ⟨j, by omega, q, rfl⟩, decide_eq_true ?_⟩
      refine h2 _ (by omega) (by omega) ?_
      rw [ordD_take_has hz, Int.toNat_of_nonneg (by omega)]
      exact decide_eq_false (not_take (ordD_nodup X i) q (Nat.le_refl _))
    · rw [ordD_len] at q
      rw [decide_eq_true (by omega)]; rfl
  · omega
theorem Best2.end_ {X : List Int} {z b : Int} {i j : Nat} (h : Best2 X z i X.length b) (hz : z = setOf ((ordD X i).take j)) (hb : 0 ≤ b) : j < (ordD X i).length ∧ b = (ordD X i).getD j 0 ∧ 0 < X.getD b.toNat 0 := by
  rcases h with ⟨h1, _⟩ | ⟨h2, h3, h4, h6, h5⟩
  · omega
  · rw [ordD_take_has hz, Int.toNat_of_nonneg hb] at h4
    have h4 := of_decide_eq_false h4
    obtain ⟨p, i1, i2⟩ := List.mem_iff_getElem.1 (ordD_mem.2 ⟨h2, h3⟩ : b ∈ ordD X i)
    have hi : (ordD X i).getD p 0 = b := by rw [List.getD_eq_getElem?_getD, List.getElem?_eq_getElem i1]; exact i2
    have hij : j ≤ p := by
      rcases Nat.lt_or_ge p j with q | q
      · exact absurd (mem_take_iff.2 ⟨p, q, i1, hi⟩) h4
      · exact q
    refine ⟨by omega, ?_, h6⟩
    have h1 := ordD_at (X := X) (at_ := i) (j := j) (by omega)
    have hle : leG X ((ordD X i).getD j 0) b = true := by
      rcases Nat.lt_or_eq_of_le hij with q | q
      · have := List.pairwise_iff_getElem.1 (ordD_le X i) j p (by omega) i1 q
        rw [List.getD_eq_getElem?_getD, List.getElem?_eq_getElem (by omega), ← i2]
        exact this
      · subst q; rw [hi]; exact decide_eq_true (.inr ⟨rfl, Int.le_refl _⟩)
    have hun : has z ((ordD X i).getD j 0).toNat = false := by
      rw [ordD_take_has hz, Int.toNat_of_nonneg (by omega)]
      exact decide_eq_false (not_take (ordD_nodup X i) (by omega) (Nat.le_refl _))
    have h7 := of_decide_eq_true hle
    have h8 := h5 ((ordD X i).getD j 0).toNat (by omega) (by omega) hun (by omega)
    rw [Int.toNat_of_nonneg (by omega)] at h8
    exact leG_anti h8 hle
theorem good_of {X : List Int} {i : Nat} (hl : X.getD i 0 ≤ ((ordD X i).length : Int)) (h : ∀ p : Nat, (p : Int) < X.getD i 0 → 0 < X.getD ((ordD X i).getD p 0).toNat 0) : badD X i = false := by
  unfold badD
  rw [ordD_len] at hl
  rw [decide_eq_false (by omega), Bool.false_or]
  cases e : (pickD X i).any fun k => decide (X.getD k.toNat 0 ≤ 0)
  · rfl
  · obtain ⟨x, h1, h2⟩ := List.any_eq_true.1 e
    obtain ⟨p, p1, _, p3⟩ := mem_take_iff.1 h1
    have := h p (by omega)
    have h2 := of_decide_eq_true h2
    rw [p3] at this
    omega
theorem setD_in {X : List Int} {i j : Nat} (hn : X.length ≤ 12) : 0 ≤ setOf ((ordD X i).take j) ∧ setOf ((ordD X i).take j) ≤ 4095 := by
  have h1 := set_lt (l := (ordD X i).take j) (n := X.length) (fun x hx => by have := ordD_mem.1 (List.mem_of_mem_take hx); omega)
  have h2 : (2 : Nat) ^ X.length ≤ 2 ^ 12 := Nat.pow_le_pow_right (by omega) hn
  have := set0 ((ordD X i).take j)
  omega
end Go.Ab
