/- Of what is joined: the plain laws. -/
import Derived.Test.YteccjcionjkllaaPlWays
namespace Go.Ab
/-! ### Walks turned round; short walks -/
theorem wk_snoc {es : List Arc} : ∀ {k : Nat} {u v : Int}, wk es (k + 1) u v = true → ∃ a ∈ es, wk es k u a.src = true ∧ a.dst = v
  | 0, u, v, h => by
    obtain ⟨a, ha, e, h1⟩ := wk_succ.1 h
    rw [wk_zero] at h1
    exact ⟨a, ha, wk_zero.2 e.symm, h1⟩
  | k + 1, u, v, h => by
    obtain ⟨a, ha, e, h1⟩ := wk_succ.1 h
    obtain ⟨b, hb, h2, h3⟩ := wk_snoc h1
    exact ⟨b, hb, wk_succ.2 ⟨a, ha, e, h2⟩, h3⟩
theorem mem_both {es : List Arc} {a : Arc} : a ∈ bothA es ↔ a ∈ es ∨ ∃ b ∈ es, a = backA b := by
  unfold bothA
  rw [List.mem_append, List.mem_map]
  constructor
  · rintro (h | ⟨b, hb, rfl⟩)
    · exact .inl h
    · exact .inr ⟨b, hb, rfl⟩
  · rintro (h | ⟨b, hb, rfl⟩)
    · exact .inl h
    · exact .inr ⟨b, hb, rfl⟩
theorem back_both {es : List Arc} {a : Arc} (h : a ∈ bothA es) : backA a ∈ bothA es := by
  rcases mem_both.1 h with h | ⟨b, hb, rfl⟩
  · exact mem_both.2 (.inr ⟨a, h, rfl⟩)
  · exact mem_both.2 (.inl (by unfold backA; exact hb))
theorem wk_rev {es : List Arc} : ∀ {k : Nat} {u v : Int}, wk (bothA es) k u v = true → wk (bothA es) k v u = true
  | 0, u, v, h => by rw [wk_zero] at h ⊢; exact h.symm
  | k + 1, u, v, h => by
    obtain ⟨a, ha, h1, h2⟩ := wk_snoc h
    exact wk_succ.2 ⟨backA a, back_both ha, h2, wk_rev h1⟩
theorem countP_lt {α : Type} {p q : α → Bool} : ∀ {l : List α}, (∀ x ∈ l, p x = true → q x = true) → (∃ x ∈ l, q x = true ∧ p x = false) → l.countP p + 1 ≤ l.countP q
  | [], _, ⟨x, hx, _⟩ => by cases hx
  | y :: r, h, ⟨x, hx, h1, h2⟩ => by
    rw [List.countP_cons, List.countP_cons]
    have hr : ∀ x ∈ r, p x = true → q x = true := fun x hx => h x (List.mem_cons_of_mem _ hx)
    have hle : r.countP p ≤ r.countP q := List.countP_mono_left hr
    rcases List.mem_cons.1 hx with rfl | hx
    · rw [if_neg (by rw [h2]; decide), if_pos h1]; omega
    · have := countP_lt hr ⟨x, hx, h1, h2⟩
      have hy := h y List.mem_cons_self
      by_cases hp : p y = true
      · rw [if_pos hp, if_pos (hy hp)]; omega
      · rw [if_neg hp]; split <;> omega
def within (es : List Arc) (k : Nat) (u : Int) (v : Nat) : Bool := (List.range (k + 1)).any fun j => wk es j u v
theorem within_iff {es : List Arc} {k : Nat} {u : Int} {v : Nat} : within es k u v = true ↔ ∃ j, j ≤ k ∧ wk es j u v = true := by
  unfold within
  rw [List.any_eq_true]
  constructor
  · rintro ⟨j, hj, h⟩; exact ⟨j, by have := List.mem_range.1 hj; omega, h⟩
  · rintro ⟨j, hj, h⟩; exact ⟨j, List.mem_range.2 (by omega), h⟩
theorem wk_dst {n : Int} {es : List Arc} (hA : InR n es) {u v : Int} (h0 : 0 ≤ u) (h1 : u < n) : ∀ {k : Nat}, wk es k u v = true → 0 ≤ v ∧ v < n
  | 0, h => by rw [wk_zero] at h; subst h; exact ⟨h0, h1⟩
  | k + 1, h => by
    obtain ⟨a, ha, _, e⟩ := wk_snoc h
    obtain ⟨_, _, h3, h4⟩ := hA a ha
    rw [← e]; exact ⟨h3, h4⟩
theorem exact_count {n : Int} {es : List Arc} (hA : InR n es) {u : Int} (h0 : 0 ≤ u) (h1 : u < n) : ∀ (k : Nat) (v : Int), wk es k u v = true → (∀ j, j < k → wk es j u v = false) → k + 1 ≤ (List.range n.toNat).countP (within es k u)
  | 0, v, h, _ => by
    rw [Nat.zero_add]
    refine List.countP_pos_iff.2 ⟨u.toNat, List.mem_range.2 (by omega), within_iff.2 ⟨0, Nat.le_refl _, wk_zero.2 ?_⟩⟩
    rw [Int.toNat_of_nonneg h0]
  | k + 1, v, h, hm => by
    obtain ⟨a, ha, h2, e⟩ := wk_snoc h
    obtain ⟨hv0, hv1⟩ := wk_dst hA h0 h1 h
    have ih := exact_count hA h0 h1 k a.src h2 (fun j hj => by
      cases hc : wk es j u a.src
      · rfl
      · have := wk_cat (wk_one ha) hc
        rw [e] at this
        rw [hm (j + 1) (by omega)] at this
        cases this)
    have := countP_lt (p := within es k u) (q := within es (k + 1) u) (l := List.range n.toNat) (fun x _ hx => by
      obtain ⟨j, hj, hw⟩ := within_iff.1 hx
      exact within_iff.2 ⟨j, by omega, hw⟩) ⟨v.toNat, List.mem_range.2 (by omega), within_iff.2 ⟨k + 1, Nat.le_refl _, by rw [Int.toNat_of_nonneg hv0]; exact h⟩, by
        cases hc : within es k u v.toNat
        · rfl
        · obtain ⟨j, hj, hw⟩ := within_iff.1 hc
          rw [Int.toNat_of_nonneg hv0, hm j (by omega)] at hw
          cases hw⟩
    omega
theorem wk_least {es : List Arc} {u v : Int} : ∀ {k : Nat}, wk es k u v = true → ∃ k', k' ≤ k ∧ wk es k' u v = true ∧ ∀ j, j < k' → wk es j u v = false := by
  intro k
  induction k using Nat.strongRecOn with
  | ind k ih =>
    intro h
    by_cases hc : ∃ j, j < k ∧ wk es j u v = true
    · obtain ⟨j, hj, hw⟩ := hc
      obtain ⟨k', h1, h2, h3⟩ := ih j hj hw
      exact ⟨k', by omega, h2, h3⟩
    · refine ⟨k, Nat.le_refl _, h, fun j hj => ?_⟩
      cases hw : wk es j u v
      · rfl
      · exact absurd ⟨j, hj, hw⟩ hc
/-- A walk need not have more arcs than there are nodes. -/
theorem wk_small {n : Int} {es : List Arc} (hA : InR n es) {u v : Int} (h0 : 0 ≤ u) (h1 : u < n) {k : Nat} (h : wk es k u v = true) : ∃ k', k' ≤ k ∧ k' < n.toNat ∧ wk es k' u v = true := by
  obtain ⟨k', h2, h3, h4⟩ := wk_least h
  have h5 := exact_count hA h0 h1 k' v h3 h4
  have h6 : (List.range n.toNat).countP (within es k' u) ≤ n.toNat := by have := List.countP_le_length (p := within es k' u) (l := List.range n.toNat); simpa using this
  exact ⟨k', h2, by omega, h3⟩

/-! ### Labels -/
structure Lab (n : Int) (es : List Arc) (o : List Int) : Prop where
  len : o.length = n.toNat
  at_ : ∀ v : Nat, v < n.toNat → 0 ≤ o.getD v 0 ∧ o.getD v 0 < n ∧ ∃ k, wk (bothA es) k v (o.getD v 0) = true
def Near (n : Int) (es : List Arc) (o : List Int) (r : Nat) : Prop := ∀ (v k : Nat) (u : Int), v < n.toNat → wk (bothA es) k v u = true → k ≤ r → o.getD v 0 ≤ u
structure Round (es : List Arc) (o0 o : List Int) (i : Nat) : Prop where
  le : ∀ v, o.getD v 0 ≤ o0.getD v 0
  arcs : ∀ j, j < i → o.getD (es.getD j default).src.toNat 0 ≤ o0.getD (es.getD j default).dst.toNat 0 ∧ o.getD (es.getD j default).dst.toNat 0 ≤ o0.getD (es.getD j default).src.toNat 0
theorem Round.start {es : List Arc} {o : List Int} : Round es o o 0 := ⟨fun _ => Int.le_refl _, fun j hj => by omega⟩
theorem Lab.step {n : Int} {es : List Arc} {o0 o : List Int} {i : Nat} (h : Lab n es o) (hr : Round es o0 o i) (hA : InR n es) (hi : i < es.length) {m : Int} (hm : m = min (o.getD (es.getD i default).src.toNat 0) (o.getD (es.getD i default).dst.toNat 0)) :
    Lab n es ((o.set (es.getD i default).src.toNat m).set (es.getD i default).dst.toNat m) ∧ Round es o0 ((o.set (es.getD i default).src.toNat m).set (es.getD i default).dst.toNat m) (i + 1) := by
  obtain ⟨h1, h2, h3, h4⟩ := hA _ (getD_mem (d := default) hi)
  have hmem := getD_mem (d := default) hi
  generalize ha : es.getD i default = a at *
  have e1 : ((a.src.toNat : Nat) : Int) = a.src := Int.toNat_of_nonneg h1
  have e2 : ((a.dst.toNat : Nat) : Int) = a.dst := Int.toNat_of_nonneg h3
  have hs : a.src.toNat < n.toNat := by omega
  have hd : a.dst.toNat < n.toNat := by omega
  obtain ⟨a1, a2, ka, a3⟩ := h.at_ _ hs
  obtain ⟨b1, b2, kb, b3⟩ := h.at_ _ hd
  rw [e1] at a3
  rw [e2] at b3
  have hab : wk (bothA es) 1 a.src a.dst = true := wk_one (mem_both.2 (.inl hmem))
  have hm1 : m ≤ o.getD a.src.toNat 0 := by omega
  have hm2 : m ≤ o.getD a.dst.toNat 0 := by omega
  have hat : ∀ v, ((o.set a.src.toNat m).set a.dst.toNat m).getD v 0 = if v = a.src.toNat ∨ v = a.dst.toNat then m else o.getD v 0 := by
    intro v
    by_cases hv : v = a.dst.toNat
    · subst hv; rw [getD_set_self _ _ _ _ (by rw [List.length_set, h.len]; exact hd), if_pos (.inr rfl)]
    · rw [getD_set_ne _ _ _ _ _ (Ne.symm hv)]
      by_cases hu : v = a.src.toNat
      · subst hu; rw [getD_set_self _ _ _ _ (by rw [h.len]; exact hs), if_pos (.inl rfl)]
      · rw [getD_set_ne _ _ _ _ _ (Ne.symm hu), if_neg (by rintro (h | h) <;> contradiction)]
  have hle : ∀ v, ((o.set a.src.toNat m).set a.dst.toNat m).getD v 0 ≤ o.getD v 0 := by
    intro v
    rw [hat]
    split
    · rename_i hc; rcases hc with rfl | rfl <;> assumption
    · exact Int.le_refl _
  refine ⟨⟨by simp [h.len], fun v hv => ?_⟩, fun v => Int.le_trans (hle v) (hr.le v), fun j hj => ?_⟩
  · rw [hat]
    split
    · rename_i hc
      have hcon : ∃ k, wk (bothA es) k a.src m = true := by
        rcases Int.le_total (o.getD a.src.toNat 0) (o.getD a.dst.toNat 0) with hc | hc
        · rw [hm, Int.min_eq_left hc]; exact ⟨ka, a3⟩
        · rw [hm, Int.min_eq_right hc]; exact ⟨1 + kb, wk_cat b3 hab⟩
      refine ⟨by omega, by omega, ?_⟩
      rcases hc with rfl | rfl
      · rw [e1]; exact hcon
      · rw [e2]
        obtain ⟨k, hk⟩ := hcon
        exact ⟨1 + k, wk_cat hk (wk_rev hab)⟩
    · exact h.at_ v hv
  · rcases Nat.lt_succ_iff_lt_or_eq.1 hj with hj | hj
    · obtain ⟨q1, q2⟩ := hr.arcs j hj
      exact ⟨Int.le_trans (hle _) q1, Int.le_trans (hle _) q2⟩
    · subst hj
      rw [ha, hat, hat, if_pos (.inl rfl), if_pos (.inr rfl)]
      exact ⟨Int.le_trans hm2 (hr.le _), Int.le_trans hm1 (hr.le _)⟩
theorem Near.step {n : Int} {es : List Arc} {o0 o : List Int} {r i : Nat} (h : Near n es o0 r) (hr : Round es o0 o i) (hi : es.length ≤ i) (hA : InR n es) : Near n es o (r + 1) := fun v k u hv hw hk => by
  match k with
  | 0 =>
    have := h v 0 u hv hw (by omega)
    exact Int.le_trans (hr.le v) this
  | k + 1 =>
    obtain ⟨a, ha, e, h1⟩ := wk_succ.1 hw
    obtain ⟨q1, q2, q3, q4⟩ := hA.both a ha
    have e2 : ((a.dst.toNat : Nat) : Int) = a.dst := Int.toNat_of_nonneg q3
    have h2 := h a.dst.toNat k u (by omega) (by rw [e2]; exact h1) (by omega)
    have hv2 : v = a.src.toNat := by omega
    subst hv2
    rcases mem_both.1 ha with ha | ⟨b, hb, rfl⟩
    · obtain ⟨j, hj, rfl⟩ := List.getElem_of_mem ha
      have := (hr.arcs j (by omega)).1
      rw [getD_lt es default j hj] at this
      omega
    · obtain ⟨j, hj, rfl⟩ := List.getElem_of_mem hb
      have := (hr.arcs j (by omega)).2
      rw [getD_lt es default j hj] at this
      unfold backA at h2 ⊢
      simp only at h2 ⊢
      omega
theorem lab_start {n : Int} {es : List Arc} {o : List Int} (hl : o.length = n.toNat) (h : ∀ v, v < n.toNat → o.getD v 0 = v) : Lab n es o ∧ Near n es o 0 :=
  ⟨⟨hl, fun v hv => by rw [h v hv]; exact ⟨by omega, by omega, 0, wk_zero.2 rfl⟩⟩, fun v k u hv hw hk => by
    obtain rfl : k = 0 := by omega
    rw [wk_zero] at hw
    rw [h v hv, hw]; exact Int.le_refl _⟩
theorem finB_dist {n : Int} {es : List Arc} (hn : n ≤ 12) (hA : InR n es) {u v : Int} : finB (dist es u v) = true ↔ ∃ k, wk es k u v = true := by
  unfold finB
  rw [decide_eq_true_iff]
  rcases dist_cases hn hA u v with ⟨k, e, h1, h2, _⟩ | ⟨e, h1⟩
  · rw [e]; exact ⟨fun _ => ⟨k, h2⟩, fun _ => by omega⟩
  · rw [e]
    constructor
    · intro h; omega
    · rintro ⟨k, hk⟩; rw [h1 k] at hk; cases hk
theorem row_len {n : Int} {es : List Arc} {u : Nat} (hu : (u : Int) < n) : ((waysOf n es).getD u []).length = n.toNat := by rw [waysOf_row hu]; simp
theorem parts_end {n : Int} {es : List Arc} {o : List Int} {r : Nat} (h : Lab n es o) (hn : Near n es o r) (hr : n.toNat ≤ r) (h12 : n ≤ 12) (hA : InR n es) : o = joinedOf n es := by
  refine list_ext 0 (by rw [h.len, joinedOf_len]) fun v hv => ?_
  rw [h.len] at hv
  obtain ⟨a1, a2, k, a3⟩ := h.at_ v hv
  have hvn : (v : Int) < n := by omega
  unfold joinedOf
  rw [getD_lt ((List.range n.toNat).map _) 0 v (by simpa using hv)]
  simp only [List.getElem_map, List.getElem_range]
  have hat : ∀ j : Nat, j < n.toNat → ((waysOf n (bothA es)).getD v []).getD j 0 = dist (bothA es) v j := fun j hj => waysOf_at hvn (by omega)
  have hno : ∀ j, j < (o.getD v 0).toNat → finB (((waysOf n (bothA es)).getD v []).getD j 0) = false := fun j hj => by
    rw [hat j (by omega)]
    cases hc : finB (dist (bothA es) v j)
    · rfl
    · obtain ⟨k, hk⟩ := (finB_dist h12 hA.both).1 hc
      obtain ⟨k', h1, h2, h3⟩ := wk_small hA.both (by omega) hvn hk
      have := hn v k' j hv h3 (by omega)
      omega
  have hyes : finB (((waysOf n (bothA es)).getD v []).getD (o.getD v 0).toNat 0) = true := by
    rw [hat _ (by omega), finB_dist h12 hA.both, Int.toNat_of_nonneg a1]
    exact ⟨k, a3⟩
  rw [idxOf_at hno (by rw [row_len hvn]; omega) hyes, Int.toNat_of_nonneg a1]
end Go.Ab
