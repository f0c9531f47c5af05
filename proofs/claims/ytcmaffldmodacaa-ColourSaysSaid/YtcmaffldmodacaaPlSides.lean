/- Of two sides: the plain laws. -/
import Derived.Test.YtcmaffldmodacaaPlB
namespace Go.Ab
def flipA (a : Arc) : Arc := ⟨a.dst, a.src, 0⟩
def twice : List Arc → List Arc
  | [] => []
  | a :: r => a :: flipA a :: twice r
theorem twice_snoc : ∀ (es : List Arc) (a : Arc), twice (es ++ [a]) = twice es ++ [a, flipA a]
  | [], _ => rfl
  | b :: r, a => by simp only [List.cons_append, twice, twice_snoc r a]
theorem twice_len : ∀ es : List Arc, (twice es).length = 2 * es.length
  | [] => rfl
  | a :: r => by simp only [twice, List.length_cons, twice_len r]; omega
theorem mem_twice {a : Arc} : ∀ {es : List Arc}, a ∈ twice es ↔ ∃ b ∈ es, a = b ∨ a = flipA b
  | [] => by simp [twice]
  | b :: r => by
    simp only [twice, List.mem_cons, mem_twice (es := r)]
    constructor
    · rintro (rfl | rfl | ⟨c, hc, h⟩)
      · exact ⟨_, .inl rfl, .inl rfl⟩
      · exact ⟨_, .inl rfl, .inr rfl⟩
      · exact ⟨c, .inr hc, h⟩
    · rintro ⟨c, rfl | hc, h⟩
      · rcases h with h | h
        · exact .inl h
        · exact .inr (.inl h)
      · exact .inr (.inr ⟨c, hc, h⟩)
theorem InR.twice {n : Int} {es : List Arc} (h : InR n es) : InR n (twice es) := fun a ha => by
  obtain ⟨b, hb, rfl | rfl⟩ := mem_twice.1 ha
  · exact h _ hb
  · obtain ⟨h1, h2, h3, h4⟩ := h b hb
    exact ⟨h3, h4, h1, h2⟩
theorem both_twice {es : List Arc} {a : Arc} (h : a ∈ bothA es) : ∃ b ∈ twice es, b.src = a.src ∧ b.dst = a.dst := by
  rcases mem_both.1 h with h | ⟨b, hb, rfl⟩
  · exact ⟨a, mem_twice.2 ⟨a, h, .inl rfl⟩, rfl, rfl⟩
  · exact ⟨flipA b, mem_twice.2 ⟨b, hb, .inr rfl⟩, rfl, rfl⟩
theorem twice_both {es : List Arc} {a : Arc} (h : a ∈ twice es) : ∃ b ∈ bothA es, b.src = a.src ∧ b.dst = a.dst := by
  obtain ⟨b, hb, rfl | rfl⟩ := mem_twice.1 h
  · exact ⟨_, mem_both.2 (.inl hb), rfl, rfl⟩
  · exact ⟨backA b, mem_both.2 (.inr ⟨b, hb, rfl⟩), rfl, rfl⟩
def rootOf (n : Int) (es : List Arc) (v : Nat) : Int := (joinedOf n es).getD v 0
theorem root_at {n : Int} {es : List Arc} (h12 : n ≤ 12) (hA : InR n es) {v : Nat} (hv : (v : Int) < n) :
    0 ≤ rootOf n es v ∧ rootOf n es v ≤ v ∧ (∃ k, wk (bothA es) k (rootOf n es v) v = true) ∧ ∀ (k : Nat) (u : Int), wk (bothA es) k v u = true → rootOf n es v ≤ u := by
  have hat : ∀ j : Nat, j < n.toNat → ((waysOf n (bothA es)).getD v []).getD j 0 = dist (bothA es) v j := fun j hj => waysOf_at hv (by omega)
  have hr : rootOf n es v = idxOf finB ((waysOf n (bothA es)).getD v []) := by
    unfold rootOf joinedOf
    rw [getD_lt ((List.range n.toNat).map _) 0 v (by simp; omega)]
    simp
  have key : ∀ u : Nat, u < n.toNat → (∃ k, wk (bothA es) k v u = true) → ∃ w : Nat, w ≤ u ∧ rootOf n es v = w ∧ (∃ k, wk (bothA es) k v w = true) ∧ ∀ j : Nat, j < w → ∀ k, wk (bothA es) k v j = false := by
    intro u
    induction u using Nat.strongRecOn with
    | ind u ih =>
      intro hu hw
      by_cases hc : ∃ j : Nat, j < u ∧ ∃ k, wk (bothA es) k v j = true
      · obtain ⟨j, hj, hwj⟩ := hc
        obtain ⟨w, h1, h2, h3, h4⟩ := ih j hj (by omega) hwj
        exact ⟨w, by omega, h2, h3, h4⟩
      · have hno : ∀ j : Nat, j < u → ∀ k, wk (bothA es) k v j = false := fun j hj k => by
          cases e : wk (bothA es) k v j
          · rfl
          · exact absurd ⟨j, hj, k, e⟩ hc
        refine ⟨u, Nat.le_refl _, ?_, hw, hno⟩
        rw [hr]
        refine idxOf_at (d := 0) (fun j hj => ?_) (by rw [row_len hv]; exact hu) ?_
        · rw [hat j (by omega)]
          cases e : finB (dist (bothA es) v j)
          · rfl
          · obtain ⟨k, hk⟩ := (finB_dist h12 hA.both).1 e
            rw [hno j hj k] at hk; cases hk
        · rw [hat u hu, finB_dist h12 hA.both]; exact hw
  obtain ⟨w, h1, h2, ⟨k, h3⟩, h4⟩ := key v (by omega) ⟨0, wk_zero.2 rfl⟩
  rw [h2]
  refine ⟨by omega, by omega, ⟨k, wk_rev h3⟩, fun k u hu => ?_⟩
  have hu2 := wk_dst hA.both (by omega) hv hu
  rcases Int.lt_or_le u w with hlt | hge
  · have := h4 u.toNat (by omega) k
    rw [Int.toNat_of_nonneg hu2.1, hu] at this; cases this
  · exact hge
theorem root_same {n : Int} {es : List Arc} (h12 : n ≤ 12) (hA : InR n es) {v w : Nat} (hv : (v : Int) < n) (hw : (w : Int) < n) {k : Nat} (h : wk (bothA es) k v w = true) : rootOf n es v = rootOf n es w := by
  obtain ⟨a1, a2, ⟨ka, a3⟩, a4⟩ := root_at h12 hA hv
  obtain ⟨b1, b2, ⟨kb, b3⟩, b4⟩ := root_at h12 hA hw
  have h1 := a4 _ _ (wk_cat (wk_rev b3) h)
  have h2 := b4 _ _ (wk_cat (wk_rev a3) (wk_rev h))
  omega
theorem root_root {n : Int} {es : List Arc} (h12 : n ≤ 12) (hA : InR n es) {v : Nat} (hv : (v : Int) < n) : rootOf n es (rootOf n es v).toNat = rootOf n es v := by
  obtain ⟨a1, a2, ⟨ka, a3⟩, a4⟩ := root_at h12 hA hv
  refine root_same h12 hA (by omega) hv (k := ka) ?_
  rw [Int.toNat_of_nonneg a1]; exact a3
def sideAt (n : Int) (es : List Arc) (v : Nat) : Int := Int.tmod (((waysOf n (bothA es)).getD ((joinedOf n es).getD v 0).toNat []).getD v 0) 2
def sidesOf (n : Int) (es : List Arc) : List Int := (List.range n.toNat).map (sideAt n es)
def eqSide (l : List Int) (a : Arc) : Bool := decide (l.getD a.src.toNat 0 = l.getD a.dst.toNat 0)
structure Sided (n : Int) (es : List Arc) (c : List Int) : Prop where
  len : c.length = n.toNat
  root : ∀ v : Nat, (v : Int) < n → c.getD (rootOf n es v).toNat 0 = 0
  at_ : ∀ v : Nat, (v : Int) < n → ∃ k : Nat, wk (bothA es) k (rootOf n es v) v = true ∧ c.getD v 0 = ((k % 2 : Nat) : Int)
theorem Sided.walk {n : Int} {es : List Arc} {c : List Int} (h : Sided n es c) (hA : InR n es) (hno : es.any (eqSide c) = false) : ∀ {k : Nat} {u v : Int}, 0 ≤ u → u < n → wk (bothA es) k u v = true → c.getD v.toNat 0 = (c.getD u.toNat 0 + k) % 2
  | 0, u, v, h0, h1, hw => by
    rw [wk_zero] at hw
    subst hw
    obtain ⟨k, _, e⟩ := h.at_ u.toNat (by omega)
    omega
  | k + 1, u, v, h0, h1, hw => by
    obtain ⟨a, ha, e, h2⟩ := wk_succ.1 hw
    obtain ⟨q1, q2, q3, q4⟩ := hA.both a ha
    have ih := Sided.walk h hA hno q3 q4 h2
    obtain ⟨ks, _, es1⟩ := h.at_ a.src.toNat (by omega)
    obtain ⟨kd, _, ed1⟩ := h.at_ a.dst.toNat (by omega)
    have hne : c.getD a.src.toNat 0 ≠ c.getD a.dst.toNat 0 := by
      rcases mem_both.1 ha with hm | ⟨b, hb, rfl⟩
      · have := any_no hno a hm
        simpa [eqSide] using this
      · have := any_no hno b hb
        have hb2 : ¬ c.getD b.src.toNat 0 = c.getD b.dst.toNat 0 := by simpa [eqSide] using this
        exact fun h => hb2 h.symm
    subst e
    rw [ih]
    push_cast
    omega
theorem Sided.uniq {n : Int} {es : List Arc} {c c' : List Int} (h : Sided n es c) (h' : Sided n es c') (h12 : n ≤ 12) (hA : InR n es) (hno : es.any (eqSide c) = false) : c' = c := by
  refine list_ext 0 (by rw [h.len, h'.len]) fun v hv => ?_
  rw [h'.len] at hv
  obtain ⟨a1, a2, _, _⟩ := root_at h12 hA (v := v) (by omega)
  obtain ⟨k, hk, e⟩ := h'.at_ v (by omega)
  have := h.walk hA hno a1 (by omega) hk
  rw [h.root v (by omega)] at this
  rw [e]
  have e2 : ((v : Int)).toNat = v := by omega
  rw [e2] at this
  rw [this]
  omega
theorem Sided.any {n : Int} {es : List Arc} {c c' : List Int} (h : Sided n es c) (h' : Sided n es c') (h12 : n ≤ 12) (hA : InR n es) : es.any (eqSide c) = es.any (eqSide c') := by
  cases e : es.any (eqSide c)
  · rw [h.uniq h' h12 hA e, e]
  · cases e' : es.any (eqSide c')
    · rw [h'.uniq h h12 hA e', e'] at e; cases e
    · rfl
theorem sided_ref {n : Int} {es : List Arc} (h12 : n ≤ 12) (hA : InR n es) : Sided n es (sidesOf n es) := by
  have hat : ∀ v : Nat, (v : Int) < n → (sidesOf n es).getD v 0 = Int.tmod (dist (bothA es) (rootOf n es v) v) 2 := by
    intro v hv
    unfold sidesOf
    rw [getD_lt ((List.range n.toNat).map _) 0 v (by simp; omega)]
    simp only [List.getElem_map, List.getElem_range, sideAt]
    obtain ⟨a1, a2, _, _⟩ := root_at h12 hA hv
    show Int.tmod (((waysOf n (bothA es)).getD (rootOf n es v).toNat []).getD v 0) 2 = _
    rw [waysOf_at (by omega) hv, Int.toNat_of_nonneg a1]
  have key : ∀ v : Nat, (v : Int) < n → ∃ k : Nat, wk (bothA es) k (rootOf n es v) v = true ∧ dist (bothA es) (rootOf n es v) v = k := by
    intro v hv
    obtain ⟨a1, a2, ⟨ka, a3⟩, _⟩ := root_at h12 hA hv
    rcases dist_cases h12 hA.both (rootOf n es v) v with ⟨k, e, _, h2, _⟩ | ⟨_, h2⟩
    · exact ⟨k, h2, e⟩
    · rw [h2 ka] at a3; cases a3
  refine ⟨by simp [sidesOf], fun v hv => ?_, fun v hv => ?_⟩
  · obtain ⟨a1, a2, _, _⟩ := root_at h12 hA hv
    rw [hat _ (by omega), root_root h12 hA hv, Int.toNat_of_nonneg a1]
    rcases dist_cases h12 hA.both (rootOf n es v) (rootOf n es v) with ⟨k, e, _, _, h2⟩ | ⟨_, h2⟩
    · have := h2 0 (wk_zero.2 rfl)
      rw [e, show k = 0 by omega]; rfl
    · have := h2 0
      rw [wk_zero.2 rfl] at this; cases this
  · obtain ⟨k, h1, h2⟩ := key v hv
    refine ⟨k, h1, ?_⟩
    rw [hat v hv, h2, Int.tmod_eq_emod_of_nonneg (by omega)]
    omega
structure Spread (n : Int) (es : List Arc) (s : List Int) : Prop where
  len : s.length = n.toNat
  root : ∀ v : Nat, (v : Int) < n → s.getD (rootOf n es v).toNat 0 = 0
  at_ : ∀ v : Nat, (v : Int) < n → s.getD v 0 = -1 ∨ ∃ k : Nat, wk (bothA es) k (rootOf n es v) v = true ∧ s.getD v 0 = ((k % 2 : Nat) : Int)
def Cov (n : Int) (es : List Arc) (s : List Int) (r : Nat) : Prop := ∀ (v k : Nat), (v : Int) < n → wk (bothA es) k (rootOf n es v) v = true → k ≤ r → 0 ≤ s.getD v 0
structure Round2 (es : List Arc) (s0 s : List Int) (i : Nat) : Prop where
  keep : ∀ v, 0 ≤ s0.getD v 0 → 0 ≤ s.getD v 0
  arcs : ∀ j, j < i → 0 ≤ s0.getD ((twice es).getD j default).src.toNat 0 → 0 ≤ s.getD ((twice es).getD j default).dst.toNat 0
theorem Round2.start {es : List Arc} {s : List Int} : Round2 es s s 0 := ⟨fun _ h => h, fun j hj => by omega⟩
theorem Spread.step {n : Int} {es : List Arc} {s0 s s' : List Int} {i : Nat} (h : Spread n es s) (hr : Round2 es s0 s i) (h12 : n ≤ 12) (hA : InR n es) (hi : i < (twice es).length)
    (hs : s' = if 0 ≤ s.getD ((twice es).getD i default).src.toNat 0 ∧ s.getD ((twice es).getD i default).dst.toNat 0 < 0 then s.set ((twice es).getD i default).dst.toNat (1 - s.getD ((twice es).getD i default).src.toNat 0) else s) :
    Spread n es s' ∧ Round2 es s0 s' (i + 1) := by
  obtain ⟨h1, h2, h3, h4⟩ := hA.twice _ (getD_mem (d := default) hi)
  have hmem := getD_mem (d := default) hi
  generalize ha : (twice es).getD i default = a at *
  have e1 : ((a.src.toNat : Nat) : Int) = a.src := Int.toNat_of_nonneg h1
  have e2 : ((a.dst.toNat : Nat) : Int) = a.dst := Int.toNat_of_nonneg h3
  by_cases hc : 0 ≤ s.getD a.src.toNat 0 ∧ s.getD a.dst.toNat 0 < 0
  · rw [if_pos hc] at hs
    subst hs
    have hat : ∀ v, (s.set a.dst.toNat (1 - s.getD a.src.toNat 0)).getD v 0 = if v = a.dst.toNat then 1 - s.getD a.src.toNat 0 else s.getD v 0 := by
      intro v
      by_cases hv : v = a.dst.toNat
      · subst hv; rw [getD_set_self _ _ _ _ (by rw [h.len]; omega), if_pos rfl]
      · rw [getD_set_ne _ _ _ _ _ (Ne.symm hv), if_neg hv]
    obtain ⟨b, hb, b1, b2⟩ := twice_both hmem
    have hab : wk (bothA es) 1 a.src a.dst = true := by rw [← b1, ← b2]; exact wk_one hb
    have hsr := (h.at_ a.src.toNat (by omega)).resolve_left (by omega)
    obtain ⟨k, hk, ek⟩ := hsr
    have hroot : rootOf n es a.src.toNat = rootOf n es a.dst.toNat := root_same h12 hA (by omega) (by omega) (k := 1) (by rw [e1, e2]; exact hab)
    have hnew : 0 ≤ 1 - s.getD a.src.toNat 0 := by omega
    refine ⟨⟨by rw [List.length_set]; exact h.len, fun v hv => ?_, fun v hv => ?_⟩, fun v hv => ?_, fun j hj hs => ?_⟩
    · rw [hat]
      split
      · rename_i hd
        have := h.root v hv
        rw [hd] at this; omega
      · exact h.root v hv
    · rw [hat]
      split
      · rename_i hd
        subst hd
        refine .inr ⟨k + 1, ?_, by rw [ek]; omega⟩
        rw [← hroot]
        have hk' := hk
        rw [e1] at hk'
        rw [e2]
        exact wk_cat hab hk'
      · exact h.at_ v hv
    · rw [hat]
      split
      · exact hnew
      · exact hr.keep v hv
    · rw [hat]
      split
      · exact hnew
      · rename_i hne
        rcases Nat.lt_succ_iff_lt_or_eq.1 hj with hj | hj
        · exact hr.arcs j hj hs
        · subst hj; rw [ha] at hne; exact absurd rfl hne
  · rw [if_neg hc] at hs
    subst hs
    refine ⟨h, hr.keep, fun j hj hs => ?_⟩
    rcases Nat.lt_succ_iff_lt_or_eq.1 hj with hj | hj
    · exact hr.arcs j hj hs
    · subst hj
      rw [ha] at hs ⊢
      have := hr.keep _ hs
      omega
theorem Cov.step {n : Int} {es : List Arc} {s0 s : List Int} {r i : Nat} (h : Cov n es s0 r) (hr : Round2 es s0 s i) (hi : (twice es).length ≤ i) (h12 : n ≤ 12) (hA : InR n es) : Cov n es s (r + 1) := fun v k hv hw hk => by
  obtain ⟨a1, a2, _, _⟩ := root_at h12 hA hv
  match k with
  | 0 => exact hr.keep v (h v 0 hv hw (by omega))
  | k + 1 =>
    obtain ⟨a, ha, h1, e⟩ := wk_snoc hw
    obtain ⟨q1, q2, q3, q4⟩ := hA.both a ha
    have e1 : ((a.src.toNat : Nat) : Int) = a.src := Int.toNat_of_nonneg q1
    have hroot : rootOf n es a.src.toNat = rootOf n es v := root_same h12 hA (by omega) hv (k := 1) (by rw [e1, ← e]; exact wk_one ha)
    have h2 := h a.src.toNat k (by omega) (by rw [hroot, e1]; exact h1) (by omega)
    obtain ⟨b, hb, b1, b2⟩ := both_twice ha
    obtain ⟨j, hj, rfl⟩ := List.getElem_of_mem hb
    have h3 := hr.arcs j (by omega)
    rw [getD_lt (twice es) default j hj, b1, b2, e] at h3
    have := h3 h2
    simpa using this
theorem Spread.end_ {n : Int} {es : List Arc} {s : List Int} {r : Nat} (h : Spread n es s) (hc : Cov n es s r) (hr : n.toNat ≤ r) (h12 : n ≤ 12) (hA : InR n es) : Sided n es s := ⟨h.len, h.root, fun v hv => by
  obtain ⟨a1, a2, ⟨k, a3⟩, _⟩ := root_at h12 hA hv
  obtain ⟨k', _, h2, h3⟩ := wk_small hA.both a1 (by omega) a3
  have h4 := hc v k' hv h3 (by omega)
  rcases h.at_ v hv with h5 | h5
  · omega
  · exact h5⟩
theorem spread_start {n : Int} {es : List Arc} {s : List Int} (h12 : n ≤ 12) (hA : InR n es) (hl : s.length = n.toNat) (h : ∀ v, v < n.toNat → s.getD v 0 = if (joinedOf n es).getD v 0 = v then 0 else -1) : Spread n es s ∧ Cov n es s 0 := by
  refine ⟨⟨hl, fun v hv => ?_, fun v hv => ?_⟩, fun v k hv hw hk => ?_⟩
  · obtain ⟨a1, a2, _, _⟩ := root_at h12 hA hv
    rw [h _ (by omega), if_pos]
    have := root_root h12 hA hv
    unfold rootOf at this a1 ⊢
    rw [this, Int.toNat_of_nonneg a1]
  · rw [h v (by omega)]
    split
    · rename_i he
      refine .inr ⟨0, wk_zero.2 he, rfl⟩
    · exact .inl rfl
  · obtain rfl : k = 0 := by omega
    rw [wk_zero] at hw
    rw [h v (by omega), if_pos (show (joinedOf n es).getD v 0 = (v : Int) from hw)]
    exact Int.le_refl _
theorem Spread.in_ {n : Int} {es : List Arc} {s : List Int} (h : Spread n es s) {v : Nat} (hv : (v : Int) < n) : -1 ≤ s.getD v 0 ∧ s.getD v 0 ≤ 1 := by
  rcases h.at_ v hv with h | ⟨k, _, h⟩ <;> omega
def sidesErr (n : Int) (es : List Arc) : Int := if graphErr n es (-10000) ≠ 0 then graphErr n es (-10000) else if es.any (eqSide (sidesOf n es)) then 6 else 0
end Go.Ab
