/- Plain laws, one behind the other. -/
import Derived.Test.YtcmaffldmodacaaPlA
namespace Go.Ab
def InR (n : Int) (es : List Arc) : Prop := ∀ a ∈ es, 0 ≤ a.src ∧ a.src < n ∧ 0 ≤ a.dst ∧ a.dst < n
def wk (es : List Arc) : Nat → Int → Int → Bool
  | 0, u, v => decide (u = v)
  | k + 1, u, v => es.any fun a => decide (a.src = u) && wk es k a.dst v
theorem wk_zero {es : List Arc} {u v : Int} : wk es 0 u v = true ↔ u = v := by simp [wk]
theorem wk_succ {es : List Arc} {k : Nat} {u v : Int} : wk es (k + 1) u v = true ↔ ∃ a ∈ es, a.src = u ∧ wk es k a.dst v = true := by simp [wk]
theorem wk_one {es : List Arc} {a : Arc} (ha : a ∈ es) : wk es 1 a.src a.dst = true := wk_succ.2 ⟨a, ha, rfl, wk_zero.2 rfl⟩
theorem wk_cat {es : List Arc} {w v : Int} {j : Nat} (h2 : wk es j w v = true) : ∀ {i : Nat} {u : Int}, wk es i u w = true → wk es (i + j) u v = true
  | 0, u, h => by rw [wk_zero] at h; subst h; rw [Nat.zero_add]; exact h2
  | i + 1, u, h => by
    obtain ⟨a, ha, e, h1⟩ := wk_succ.1 h
    rw [Nat.succ_add]
    exact wk_succ.2 ⟨a, ha, e, wk_cat h2 h1⟩
inductive Wm (es : List Arc) (m : Int) : Int → Int → Nat → Prop
  | nil (u : Int) : Wm es m u u 0
  | arc {a : Arc} (h : a ∈ es) : Wm es m a.src a.dst 1
  | join {u w v : Int} {i j : Nat} (h0 : 0 ≤ w) (h1 : w < m) (h2 : Wm es m u w i) (h3 : Wm es m w v j) : Wm es m u v (i + j)
theorem Wm.wk {es : List Arc} {m u v : Int} {k : Nat} (h : Wm es m u v k) : wk es k u v = true := by
  induction h with
  | nil u => exact wk_zero.2 rfl
  | arc h => exact wk_one h
  | join _ _ _ _ i1 i2 => exact wk_cat i2 i1
theorem Wm.of_wk {n : Int} {es : List Arc} (hA : InR n es) {v : Int} : ∀ {k : Nat} {u : Int}, Go.Ab.wk es k u v = true → Wm es n u v k
  | 0, u, h => by rw [wk_zero] at h; subst h; exact .nil u
  | k + 1, u, h => by
    obtain ⟨a, ha, e, h1⟩ := wk_succ.1 h
    subst e
    obtain ⟨_, _, h3, h4⟩ := hA a ha
    rw [Nat.add_comm]
    exact .join h3 h4 (.arc ha) (Wm.of_wk hA h1)
theorem Wm.split {es : List Arc} {m u v : Int} {k : Nat} (h : Wm es (m + 1) u v k) : (∃ k', k' ≤ k ∧ Wm es m u v k') ∨ ∃ i j, i + j ≤ k ∧ Wm es m u m i ∧ Wm es m m v j := by
  induction h with
  | nil u => exact .inl ⟨0, Nat.le_refl _, .nil u⟩
  | arc h => exact .inl ⟨1, Nat.le_refl _, .arc h⟩
  | @join u w v i j h0 h1 _ _ i1 i2 =>
    by_cases hw : w < m
    · rcases i1 with ⟨k1, a1, a2⟩ | ⟨x1, y1, a1, a2, a3⟩
      · rcases i2 with ⟨k2, b1, b2⟩ | ⟨x2, y2, b1, b2, b3⟩
        · exact .inl ⟨k1 + k2, by omega, .join h0 hw a2 b2⟩
        · exact .inr ⟨k1 + x2, y2, by omega, .join h0 hw a2 b2, b3⟩
      · rcases i2 with ⟨k2, b1, b2⟩ | ⟨x2, y2, b1, b2, b3⟩
        · exact .inr ⟨x1, y1 + k2, by omega, a2, .join h0 hw a3 b2⟩
        · exact .inr ⟨x1, y2, by omega, a2, b3⟩
    · obtain rfl : w = m := by omega
      rcases i1 with ⟨k1, a1, a2⟩ | ⟨x1, y1, a1, a2, a3⟩
      · rcases i2 with ⟨k2, b1, b2⟩ | ⟨x2, y2, b1, b2, b3⟩
        · exact .inr ⟨k1, k2, by omega, a2, b2⟩
        · exact .inr ⟨k1, y2, by omega, a2, b3⟩
      · rcases i2 with ⟨k2, b1, b2⟩ | ⟨x2, y2, b1, b2, b3⟩
        · exact .inr ⟨x1, k2, by omega, a2, b2⟩
        · exact .inr ⟨x1, y2, by omega, a2, b3⟩
theorem Wm.none {es : List Arc} {u v : Int} {k : Nat} (h : Wm es 0 u v k) : (u = v ∧ k = 0) ∨ ∃ a ∈ es, a.src = u ∧ a.dst = v ∧ k = 1 := by
  cases h with
  | nil u => exact .inl ⟨rfl, rfl⟩
  | arc h => exact .inr ⟨_, h, rfl, rfl, rfl⟩
  | join h0 h1 => omega
theorem Wm.short {es : List Arc} : ∀ {m : Nat} {u v : Int} {k : Nat}, Wm es m u v k → ∃ k', k' ≤ k ∧ k' ≤ 2 ^ m ∧ Wm es m u v k'
  | 0, u, v, k, h => ⟨k, Nat.le_refl _, by rcases h.none with ⟨_, h⟩ | ⟨_, _, _, _, h⟩ <;> (rw [h]; decide), h⟩
  | m + 1, u, v, k, h => by
    have hmono : ∀ {u v : Int} {k : Nat}, Wm es (m : Int) u v k → Wm es ((m + 1 : Nat) : Int) u v k := by
      intro u v k h
      induction h with
      | nil u => exact .nil u
      | arc h => exact .arc h
      | join h0 h1 _ _ i1 i2 => exact .join h0 (by omega) i1 i2
    rcases Wm.split (show Wm es ((m : Int) + 1) u v k from h) with ⟨k1, a1, a2⟩ | ⟨i, j, a1, a2, a3⟩
    · obtain ⟨k2, b1, b2, b3⟩ := Wm.short a2
      exact ⟨k2, by omega, by rw [Nat.pow_succ]; omega, hmono b3⟩
    · obtain ⟨i2, b1, b2, b3⟩ := Wm.short a2
      obtain ⟨j2, c1, c2, c3⟩ := Wm.short a3
      exact ⟨i2 + j2, by omega, by rw [Nat.pow_succ]; omega, .join (by omega) (by omega) (hmono b3) (hmono c3)⟩
theorem wk_short {n : Int} {es : List Arc} (hn : n ≤ 12) (hA : InR n es) {u v : Int} {k : Nat} (h : wk es k u v = true) : ∃ k', k' ≤ k ∧ k' ≤ 4096 ∧ wk es k' u v = true := by
  have hA2 : InR ((12 : Nat) : Int) es := fun a ha => by have := hA a ha; omega
  obtain ⟨k', h1, h2, h3⟩ := (Wm.of_wk hA2 h).short
  exact ⟨k', h1, h2, h3.wk⟩
def wlim : Nat := 4097
theorem wlim_eq : wlim = 4097 := rfl
def dist (es : List Arc) (u v : Int) : Int := match (List.range wlim).find? (fun k => wk es k u v) with | some k => (k : Int) | none => 1099511627776
theorem find_range (p : Nat → Bool) (n : Nat) : (∃ k, (List.range n).find? p = some k ∧ k < n ∧ p k = true ∧ ∀ j, j < k → p j = false) ∨ ((List.range n).find? p = none ∧ ∀ j, j < n → p j = false) := by
  induction n with
  | zero => exact .inr ⟨rfl, fun j hj => by omega⟩
  | succ n ih =>
    rw [List.range_succ, List.find?_append]
    rcases ih with ⟨k, e, h1, h2, h3⟩ | ⟨e, h1⟩
    · exact .inl ⟨k, by rw [e]; rfl, by omega, h2, h3⟩
    · rw [e, Option.none_or, List.find?_singleton]
      by_cases hp : p n = true
      · exact .inl ⟨n, by rw [if_pos hp], by omega, hp, h1⟩
      · refine .inr ⟨by rw [if_neg hp], fun j hj => ?_⟩
        rcases Nat.lt_succ_iff_lt_or_eq.1 hj with h | h
        · exact h1 j h
        · subst h; simpa using hp
theorem dist_cases {n : Int} {es : List Arc} (hn : n ≤ 12) (hA : InR n es) (u v : Int) : (∃ k : Nat, dist es u v = k ∧ k ≤ 4096 ∧ wk es k u v = true ∧ ∀ j, wk es j u v = true → k ≤ j) ∨ (dist es u v = 1099511627776 ∧ ∀ j, wk es j u v = false) := by
  have hw := wlim_eq
  unfold dist
  rcases find_range (fun k => wk es k u v) wlim with ⟨k, e, h1, h2, h3⟩ | ⟨e, h1⟩
  · rw [e]
    refine .inl ⟨k, rfl, by omega, h2, fun j hj => ?_⟩
    rcases Nat.lt_or_ge j k with hlt | hge
    · have := h3 j hlt; rw [hj] at this; cases this
    · exact hge
  · rw [e]
    refine .inr ⟨rfl, fun j => ?_⟩
    cases hj : wk es j u v
    · rfl
    · obtain ⟨k, _, h2, h3⟩ := wk_short hn hA hj
      have := h1 k (by omega)
      rw [h3] at this; cases this
theorem dist_uniq {n : Int} {es : List Arc} (hn : n ≤ 12) (hA : InR n es) {u v x : Int} (h1 : x = 1099511627776 ∨ ∃ k : Nat, x = k ∧ wk es k u v = true) (h2 : ∀ k : Nat, wk es k u v = true → x ≤ k) : x = dist es u v := by
  rcases dist_cases hn hA u v with ⟨k, e, h3, h4, h5⟩ | ⟨e, h3⟩
  · have := h2 k h4
    rcases h1 with h1 | ⟨j, rfl, hj⟩
    · omega
    · have := h5 j hj; omega
  · rcases h1 with h1 | ⟨j, rfl, hj⟩
    · omega
    · rw [h3 j] at hj; cases hj
def waysOf (n : Int) (es : List Arc) : List (List Int) := (List.range n.toNat).map fun (u : Nat) => (List.range n.toNat).map fun (v : Nat) => dist es (u : Int) (v : Int)
def at2 (D : List (List Int)) (u v : Nat) : Int := (D.getD u []).getD v 0
def put2 (D : List (List Int)) (f t : Nat) (x : Int) : List (List Int) := D.set f ((D.getD f []).set t x)
structure Sq (n : Nat) (D : List (List Int)) : Prop where
  len : D.length = n
  row : ∀ r, r < n → (D.getD r []).length = n
theorem at_put {n : Nat} {D : List (List Int)} (h : Sq n D) {f t : Nat} (hf : f < n) (ht : t < n) (x : Int) (u v : Nat) : at2 (put2 D f t x) u v = if u = f ∧ v = t then x else at2 D u v := by
  unfold at2 put2
  by_cases hu : u = f
  · subst hu
    rw [getD_set_self _ _ _ _ (by rw [h.len]; exact hf)]
    by_cases hv : v = t
    · subst hv
      rw [if_pos ⟨rfl, rfl⟩, getD_set_self _ _ _ _ (by rw [h.row _ hf]; exact ht)]
    · rw [if_neg (fun e => hv e.2), getD_set_ne _ _ _ _ _ (Ne.symm hv)]
  · rw [if_neg (fun e => hu e.1), getD_set_ne _ _ _ _ _ (Ne.symm hu)]
theorem Sq.put {n : Nat} {D : List (List Int)} (h : Sq n D) {f t : Nat} {x : Int} : Sq n (put2 D f t x) := by
  refine ⟨by unfold put2; rw [List.length_set]; exact h.len, fun r hr => ?_⟩
  unfold put2
  by_cases hu : r = f
  · subst hu
    rw [getD_set_self _ _ _ _ (by rw [h.len]; exact hr), List.length_set]; exact h.row r hr
  · rw [getD_set_ne _ _ _ _ _ (Ne.symm hu)]; exact h.row r hr
theorem Sq.eq {n : Nat} {D : List (List Int)} (h : Sq n D) (w : Nat → Nat → Int) (he : ∀ u v, u < n → v < n → at2 D u v = w u v) : D = (List.range n).map fun u => (List.range n).map fun v => w u v := by
  refine list_ext [] (by rw [h.len]; simp) fun u hu => ?_
  rw [h.len] at hu
  refine list_ext 0 (by rw [h.row u hu, getD_lt _ _ _ (by simpa using hu)]; simp) fun v hv => ?_
  rw [h.row u hu] at hv
  have h1 := he u v hu hv
  unfold at2 at h1
  rw [h1]
  rw [getD_lt ((List.range n).map fun u => (List.range n).map fun v => w u v) _ _ (by simpa using hu)]
  simp only [List.getElem_map, List.getElem_range]
  rw [getD_lt _ _ _ (by simpa using hv)]
  simp only [List.getElem_map, List.getElem_range]
def Sound (n : Nat) (es : List Arc) (D : List (List Int)) : Prop := ∀ u v : Nat, u < n → v < n → 0 ≤ at2 D u v ∧ at2 D u v ≤ 1099511627776 ∧ (at2 D u v = 1099511627776 ∨ ∃ k : Nat, at2 D u v = k ∧ wk es k u v = true)
theorem Sound.put {n : Nat} {es : List Arc} {D : List (List Int)} (hs : Sq n D) (h : Sound n es D) {f t : Nat} (hf : f < n) (ht : t < n) {x : Int} (h0 : 0 ≤ x) (h1 : x ≤ 1099511627776) (h2 : x = 1099511627776 ∨ ∃ k : Nat, x = k ∧ wk es k f t = true) : Sound n es (put2 D f t x) := fun u v hu hv => by
  rw [at_put hs hf ht]
  by_cases he : u = f ∧ v = t
  · obtain ⟨rfl, rfl⟩ := he
    rw [if_pos ⟨rfl, rfl⟩]; exact ⟨h0, h1, h2⟩
  · rw [if_neg he]; exact h u v hu hv
theorem put_le {n : Nat} {D : List (List Int)} (hs : Sq n D) {f t : Nat} (hf : f < n) (ht : t < n) {x : Int} (hx : x ≤ at2 D f t) (u v : Nat) : at2 (put2 D f t x) u v ≤ at2 D u v := by
  rw [at_put hs hf ht]
  by_cases he : u = f ∧ v = t
  · obtain ⟨rfl, rfl⟩ := he
    rw [if_pos ⟨rfl, rfl⟩]; exact hx
  · rw [if_neg he]; exact Int.le_refl _
theorem ways_init {n : Nat} {es : List Arc} {D : List (List Int)} (hl : D.length = n) (hr : ∀ r, r < n → D.getD r [] = (List.replicate n (1099511627776 : Int)).set r 0) : Sq n D ∧ Sound n es D ∧ ∀ u, u < n → at2 D u u ≤ 0 := by
  have hat : ∀ u v, u < n → v < n → at2 D u v = if u = v then 0 else 1099511627776 := by
    intro u v hu hv
    unfold at2
    rw [hr u hu]
    by_cases e : u = v
    · subst e; rw [if_pos rfl, getD_set_self _ _ _ _ (by simpa using hu)]
    · rw [if_neg e, getD_set_ne _ _ _ _ _ e, getD_lt _ _ _ (by simpa using hv)]; simp
  refine ⟨⟨hl, fun r h => by rw [hr r h]; simp⟩, fun u v hu hv => ?_, fun u hu => by rw [hat u u hu hu, if_pos rfl]; exact Int.le_refl _⟩
  rw [hat u v hu hv]
  by_cases e : u = v
  · subst e; rw [if_pos rfl]; exact ⟨by omega, by omega, .inr ⟨0, rfl, wk_zero.2 rfl⟩⟩
  · rw [if_neg e]; exact ⟨by omega, by omega, .inl rfl⟩
theorem row_put {n i : Nat} {D : List (List Int)} {R : List Int} (hl : D.length = n) (hi : i < n) : ((D.set i R).getD i []) = R := getD_set_self _ _ _ _ (by omega)
theorem init_step {n i : Nat} {D : List (List Int)} (hl : D.length = n) (hi : i < n) (hr : ∀ r, r < i → D.getD r [] = (List.replicate n (1099511627776 : Int)).set r 0) :
    (((D.set i (List.replicate n 1099511627776)).set i (((D.set i (List.replicate n 1099511627776)).getD i []).set i 0))).length = n ∧
      ∀ r, r < i + 1 → (((D.set i (List.replicate n 1099511627776)).set i (((D.set i (List.replicate n 1099511627776)).getD i []).set i 0))).getD r [] = (List.replicate n (1099511627776 : Int)).set r 0 := by
  refine ⟨by simp [hl], fun r h => ?_⟩
  rw [row_put hl hi]
  by_cases e : r = i
  · subst e; rw [getD_set_self _ _ _ _ (by rw [List.length_set]; omega)]
  · rw [getD_set_ne _ _ _ _ _ (Ne.symm e), getD_set_ne _ _ _ _ _ (Ne.symm e), hr r (by omega)]
structure Arcs1 (n : Nat) (es : List Arc) (D : List (List Int)) (k : Nat) : Prop where
  sq : Sq n D
  sound : Sound n es D
  self : ∀ u, u < n → at2 D u u ≤ 0
  arcs : ∀ j, j < k → at2 D (es.getD j default).src.toNat (es.getD j default).dst.toNat ≤ 1
theorem Arcs1.step {n : Nat} {es : List Arc} {D : List (List Int)} {k : Nat} (h : Arcs1 n es D k) (hA : InR n es) (hk : k < es.length) : Arcs1 n es (put2 D (es.getD k default).src.toNat (es.getD k default).dst.toNat (min (at2 D (es.getD k default).src.toNat (es.getD k default).dst.toNat) 1)) (k + 1) := by
  obtain ⟨h1, h2, h3, h4⟩ := hA _ (getD_mem (d := default) hk)
  have hf : (es.getD k default).src.toNat < n := by omega
  have ht : (es.getD k default).dst.toNat < n := by omega
  obtain ⟨a1, a2, a3⟩ := h.sound _ _ hf ht
  have hx : min (at2 D (es.getD k default).src.toNat (es.getD k default).dst.toNat) 1 ≤ at2 D (es.getD k default).src.toNat (es.getD k default).dst.toNat := Int.min_le_left _ _
  have hw := wk_one (getD_mem (d := default) hk)
  have e1 : (((es.getD k default).src.toNat : Nat) : Int) = (es.getD k default).src := Int.toNat_of_nonneg h1
  have e2 : (((es.getD k default).dst.toNat : Nat) : Int) = (es.getD k default).dst := Int.toNat_of_nonneg h3
  refine ⟨h.sq.put, h.sound.put h.sq hf ht (by omega) (by omega) ?_, fun u hu => Int.le_trans (put_le h.sq hf ht hx u u) (h.self u hu), fun j hj => ?_⟩
  · rcases Int.lt_or_le (at2 D (es.getD k default).src.toNat (es.getD k default).dst.toNat) 1 with hc | hc
    · rw [Int.min_eq_left (by omega)]; exact a3
    · rw [Int.min_eq_right hc]; exact .inr ⟨1, rfl, by rw [e1, e2]; exact hw⟩
  · rcases Nat.lt_succ_iff_lt_or_eq.1 hj with hj | hj
    · exact Int.le_trans (put_le h.sq hf ht hx _ _) (h.arcs j hj)
    · subst hj
      rw [at_put h.sq hf ht, if_pos ⟨rfl, rfl⟩]
      exact Int.min_le_right _ _
def Comp (n : Nat) (es : List Arc) (D : List (List Int)) (m : Nat) : Prop := ∀ (u v : Nat) (k : Nat), u < n → v < n → Wm es m u v k → at2 D u v ≤ k
def Done (n : Nat) (es : List Arc) (D : List (List Int)) (m i k : Nat) : Prop := ∀ (u v a b : Nat), u < n → v < n → (u < i ∨ (u = i ∧ v < k)) → Wm es m u m a → Wm es m m v b → at2 D u v ≤ (a : Int) + b
structure Ways1 (n : Nat) (es : List Arc) (D : List (List Int)) (m i k : Nat) : Prop where
  sq : Sq n D
  sound : Sound n es D
  comp : Comp n es D m
  done : Done n es D m i k
theorem Arcs1.ways {n : Nat} {es : List Arc} {D : List (List Int)} {k : Nat} (h : Arcs1 n es D k) (hk : es.length ≤ k) : Ways1 n es D 0 0 0 := by
  refine ⟨h.sq, h.sound, fun u v k hu hv hw => ?_, fun u v a b _ _ h => by omega⟩
  rcases hw.none with ⟨e, rfl⟩ | ⟨a, ha, e1, e2, rfl⟩
  · obtain rfl : u = v := by omega
    exact h.self u hu
  · obtain ⟨j, hj, rfl⟩ := List.getElem_of_mem ha
    have := h.arcs j (by omega)
    rw [getD_lt es default j hj, e1, e2] at this
    simpa using this
theorem Ways1.step {n : Nat} {es : List Arc} {D : List (List Int)} {m i k : Nat} (h : Ways1 n es D m i k) (hm : m < n) (hi : i < n) (hk : k < n) : Ways1 n es (put2 D i k (min (at2 D i k) (at2 D i m + at2 D m k))) m i (k + 1) := by
  obtain ⟨a1, a2, a3⟩ := h.sound i k hi hk
  obtain ⟨b1, b2, b3⟩ := h.sound i m hi hm
  obtain ⟨c1, c2, c3⟩ := h.sound m k hm hk
  have hx : min (at2 D i k) (at2 D i m + at2 D m k) ≤ at2 D i k := Int.min_le_left _ _
  refine ⟨h.sq.put, h.sound.put h.sq hi hk (by omega) (by omega) ?_, fun u v j hu hv hw => Int.le_trans (put_le h.sq hi hk hx u v) (h.comp u v j hu hv hw), fun u v a b hu hv hc ha hb => ?_⟩
  · rcases Int.lt_or_le (at2 D i m + at2 D m k) (at2 D i k) with hc | hc
    · rw [Int.min_eq_right (by omega)]
      rcases b3 with b3 | ⟨x, b3, b4⟩
      · omega
      · rcases c3 with c3 | ⟨y, c3, c4⟩
        · omega
        · exact .inr ⟨x + y, by omega, wk_cat c4 b4⟩
    · rw [Int.min_eq_left hc]; exact a3
  · by_cases he : u = i ∧ v = k
    · obtain ⟨rfl, rfl⟩ := he
      rw [at_put h.sq hi hk, if_pos ⟨rfl, rfl⟩]
      have h1 := h.comp u m a hi hm ha
      have h2 := h.comp m v b hm hk hb
      have := Int.min_le_right (at2 D u v) (at2 D u m + at2 D m v)
      omega
    · exact Int.le_trans (put_le h.sq hi hk hx u v) (h.done u v a b hu hv (by omega) ha hb)
theorem Ways1.row {n : Nat} {es : List Arc} {D : List (List Int)} {m i k : Nat} (h : Ways1 n es D m i k) (hk : n ≤ k) : Ways1 n es D m (i + 1) 0 :=
  ⟨h.sq, h.sound, h.comp, fun u v a b hu hv hc ha hb => h.done u v a b hu hv (by omega) ha hb⟩
theorem Ways1.all {n : Nat} {es : List Arc} {D : List (List Int)} {m i : Nat} (h : Ways1 n es D m i 0) (hi : n ≤ i) : Ways1 n es D (m + 1) 0 0 :=
  ⟨h.sq, h.sound, fun u v k hu hv hw => by
    rcases Wm.split (show Wm es ((m : Int) + 1) u v k from hw) with ⟨k1, a1, a2⟩ | ⟨x, y, a1, a2, a3⟩
    · have := h.comp u v k1 hu hv a2; omega
    · have := h.done u v x y hu hv (by omega) a2 a3; omega, fun u v a b _ _ h => by omega⟩
theorem Ways1.end_ {n : Nat} {es : List Arc} {D : List (List Int)} {m : Nat} (h : Ways1 n es D m 0 0) (hm : n ≤ m) (h12 : n ≤ 12) (hA : InR n es) : D = waysOf n es := by
  refine h.sq.eq _ fun u v hu hv => ?_
  obtain ⟨_, _, h3⟩ := h.sound u v hu hv
  refine dist_uniq (n := n) (by omega) hA h3 fun k hk => h.comp u v k hu hv (Wm.of_wk (fun a ha => ?_) hk)
  have := hA a ha; omega
theorem waysOf_len (n : Int) (es : List Arc) : (waysOf n es).length = n.toNat := by simp [waysOf]
theorem waysOf_row {n : Int} {es : List Arc} {u : Nat} (hu : (u : Int) < n) : (waysOf n es).getD u [] = (List.range n.toNat).map fun (v : Nat) => dist es (u : Int) (v : Int) := by
  rw [getD_lt _ _ _ (by rw [waysOf_len]; omega)]
  simp [waysOf]
theorem waysOf_at {n : Int} {es : List Arc} {u v : Nat} (hu : (u : Int) < n) (hv : (v : Int) < n) : ((waysOf n es).getD u []).getD v 0 = dist es u v := by
  rw [waysOf_row hu, getD_lt _ _ _ (by simp; omega)]
  simp
theorem InR.both {n : Int} {es : List Arc} (h : InR n es) : InR n (bothA es) := fun a ha => by
  unfold bothA at ha
  rw [List.mem_append, List.mem_map] at ha
  rcases ha with ha | ⟨b, hb, rfl⟩
  · exact h a ha
  · obtain ⟨h1, h2, h3, h4⟩ := h b hb
    exact ⟨h3, h4, h1, h2⟩
theorem GOk.inR {n : Int} {es : List Arc} {k : Int} (h : GOk n es k) : InR n es := fun a ha => by
  obtain ⟨h1, h2, h3, h4, _⟩ := h.arc a ha
  exact ⟨h1, h2, h3, h4⟩
def finB (x : Int) : Bool := decide (x < 1099511627776)
def joinedOf (n : Int) (es : List Arc) : List Int := (List.range n.toNat).map fun u => idxOf finB ((waysOf n (bothA es)).getD u [])
theorem joinedOf_len (n : Int) (es : List Arc) : (joinedOf n es).length = n.toNat := by simp [joinedOf]
end Go.Ab
namespace Go.Ab
theorem wk_snoc {es : List Arc} : ∀ {k : Nat} {u v : Int}, wk es (k + 1) u v = true → ∃ a ∈ es, wk es k u a.src = true ∧ a.dst = v
  | 0, u, v, h => by
    obtain ⟨a, ha, e, h1⟩ := wk_succ.1 h
    rw [wk_zero] at h1
    exact ⟨a, ha, wk_zero.2 e.symm, h1⟩
  | k + 1, u, v, h => by
    obtain ⟨a, ha, e, h1⟩ := wk_succ.1 h
    obtain ⟨b, hb, h2, h3⟩ := wk_snoc h1
    exact ⟨b, hb, wk_succ.2 ⟨a, ha, e, h2⟩, h3⟩
theorem mem_both {es : List Arc} {a : Arc} : a ∈ bothA es ↔ a ∈ es ∨ ∃ b ∈ es, a = backA b := by
  unfold bothA
  rw [List.mem_append, List.mem_map]
  constructor
  · rintro (h | ⟨b, hb, rfl⟩)
    · exact .inl h
    · exact .inr ⟨b, hb, rfl⟩
  · rintro (h | ⟨b, hb, rfl⟩)
    · exact .inl h
    · exact .inr ⟨b, hb, rfl⟩
theorem back_both {es : List Arc} {a : Arc} (h : a ∈ bothA es) : backA a ∈ bothA es := by
  rcases mem_both.1 h with h | ⟨b, hb, rfl⟩
  · exact mem_both.2 (.inr ⟨a, h, rfl⟩)
  · exact mem_both.2 (.inl (by unfold backA; exact hb))
theorem wk_rev {es : List Arc} : ∀ {k : Nat} {u v : Int}, wk (bothA es) k u v = true → wk (bothA es) k v u = true
  | 0, u, v, h => by rw [wk_zero] at h ⊢; exact h.symm
  | k + 1, u, v, h => by
    obtain ⟨a, ha, h1, h2⟩ := wk_snoc h
    exact wk_succ.2 ⟨backA a, back_both ha, h2, wk_rev h1⟩
theorem countP_lt {α : Type} {p q : α → Bool} : ∀ {l : List α}, (∀ x ∈ l, p x = true → q x = true) → (∃ x ∈ l, q x = true ∧ p x = false) → l.countP p + 1 ≤ l.countP q
  | [], _, ⟨x, hx, _⟩ => by cases hx
  | y :: r, h, ⟨x, hx, h1, h2⟩ => by
    rw [List.countP_cons, List.countP_cons]
    have hr : ∀ x ∈ r, p x = true → q x = true := fun x hx => h x (List.mem_cons_of_mem _ hx)
    have hle : r.countP p ≤ r.countP q := List.countP_mono_left hr
    rcases List.mem_cons.1 hx with rfl | hx
    · rw [if_neg (by rw [h2]; decide), if_pos h1]; omega
    · have := countP_lt hr ⟨x, hx, h1, h2⟩
      have hy := h y List.mem_cons_self
      by_cases hp : p y = true
      · rw [if_pos hp, if_pos (hy hp)]; omega
      · rw [if_neg hp]; split <;> omega
def within (es : List Arc) (k : Nat) (u : Int) (v : Nat) : Bool := (List.range (k + 1)).any fun j => wk es j u v
theorem within_iff {es : List Arc} {k : Nat} {u : Int} {v : Nat} : within es k u v = true ↔ ∃ j, j ≤ k ∧ wk es j u v = true := by
  unfold within
  rw [List.any_eq_true]
  constructor
  · rintro ⟨j, hj, h⟩; exact ⟨j, by have := List.mem_range.1 hj; omega, h⟩
  · rintro ⟨j, hj, h⟩; exact ⟨j, List.mem_range.2 (by omega), h⟩
theorem wk_dst {n : Int} {es : List Arc} (hA : InR n es) {u v : Int} (h0 : 0 ≤ u) (h1 : u < n) : ∀ {k : Nat}, wk es k u v = true → 0 ≤ v ∧ v < n
  | 0, h => by rw [wk_zero] at h; subst h; exact ⟨h0, h1⟩
  | k + 1, h => by
    obtain ⟨a, ha, _, e⟩ := wk_snoc h
    obtain ⟨_, _, h3, h4⟩ := hA a ha
    rw [← e]; exact ⟨h3, h4⟩
theorem exact_count {n : Int} {es : List Arc} (hA : InR n es) {u : Int} (h0 : 0 ≤ u) (h1 : u < n) : ∀ (k : Nat) (v : Int), wk es k u v = true → (∀ j, j < k → wk es j u v = false) → k + 1 ≤ (List.range n.toNat).countP (within es k u)
  | 0, v, h, _ => by
    rw [Nat.zero_add]
    refine List.countP_pos_iff.2 ⟨u.toNat, List.mem_range.2 (by omega), within_iff.2 ⟨0, Nat.le_refl _, wk_zero.2 ?_⟩⟩
    rw [Int.toNat_of_nonneg h0]
  | k + 1, v, h, hm => by
    obtain ⟨a, ha, h2, e⟩ := wk_snoc h
    obtain ⟨hv0, hv1⟩ := wk_dst hA h0 h1 h
    have ih := exact_count hA h0 h1 k a.src h2 (fun j hj => by
      cases hc : wk es j u a.src
      · rfl
      · have := wk_cat (wk_one ha) hc
        rw [e] at this
        rw [hm (j + 1) (by omega)] at this
        cases this)
    have := countP_lt (p := within es k u) (q := within es (k + 1) u) (l := List.range n.toNat) (fun x _ hx => by
      obtain ⟨j, hj, hw⟩ := within_iff.1 hx
      exact within_iff.2 ⟨j, by omega, hw⟩) ⟨v.toNat, List.mem_range.2 (by omega), within_iff.2 ⟨k + 1, Nat.le_refl _, by rw [Int.toNat_of_nonneg hv0]; exact h⟩, by
        cases hc : within es k u v.toNat
        · rfl
        · obtain ⟨j, hj, hw⟩ := within_iff.1 hc
          rw [Int.toNat_of_nonneg hv0, hm j (by omega)] at hw
          cases hw⟩
    omega
theorem wk_least {es : List Arc} {u v : Int} : ∀ {k : Nat}, wk es k u v = true → ∃ k', k' ≤ k ∧ wk es k' u v = true ∧ ∀ j, j < k' → wk es j u v = false := by
  intro k
  induction k using Nat.strongRecOn with
  | ind k ih =>
    intro h
    by_cases hc : ∃ j, j < k ∧ wk es j u v = true
    · obtain ⟨j, hj, hw⟩ := hc
      obtain ⟨k', h1, h2, h3⟩ := ih j hj hw
      exact ⟨k', by omega, h2, h3⟩
    · refine ⟨k, Nat.le_refl _, h, fun j hj => ?_⟩
      cases hw : wk es j u v
      · rfl
      · exact absurd ⟨j, hj, hw⟩ hc
theorem wk_small {n : Int} {es : List Arc} (hA : InR n es) {u v : Int} (h0 : 0 ≤ u) (h1 : u < n) {k : Nat} (h : wk es k u v = true) : ∃ k', k' ≤ k ∧ k' < n.toNat ∧ wk es k' u v = true := by
  obtain ⟨k', h2, h3, h4⟩ := wk_least h
  have h5 := exact_count hA h0 h1 k' v h3 h4
  have h6 : (List.range n.toNat).countP (within es k' u) ≤ n.toNat := by have := List.countP_le_length (p := within es k' u) (l := List.range n.toNat); simpa using this
  exact ⟨k', h2, by omega, h3⟩
structure Lab (n : Int) (es : List Arc) (o : List Int) : Prop where
  len : o.length = n.toNat
  at_ : ∀ v : Nat, v < n.toNat → 0 ≤ o.getD v 0 ∧ o.getD v 0 < n ∧ ∃ k, wk (bothA es) k v (o.getD v 0) = true
def Near (n : Int) (es : List Arc) (o : List Int) (r : Nat) : Prop := ∀ (v k : Nat) (u : Int), v < n.toNat → wk (bothA es) k v u = true → k ≤ r → o.getD v 0 ≤ u
structure Round (es : List Arc) (o0 o : List Int) (i : Nat) : Prop where
  le : ∀ v, o.getD v 0 ≤ o0.getD v 0
  arcs : ∀ j, j < i → o.getD (es.getD j default).src.toNat 0 ≤ o0.getD (es.getD j default).dst.toNat 0 ∧ o.getD (es.getD j default).dst.toNat 0 ≤ o0.getD (es.getD j default).src.toNat 0
theorem Round.start {es : List Arc} {o : List Int} : Round es o o 0 := ⟨fun _ => Int.le_refl _, fun j hj => by omega⟩
theorem Lab.step {n : Int} {es : List Arc} {o0 o : List Int} {i : Nat} (h : Lab n es o) (hr : Round es o0 o i) (hA : InR n es) (hi : i < es.length) {m : Int} (hm : m = min (o.getD (es.getD i default).src.toNat 0) (o.getD (es.getD i default).dst.toNat 0)) :
    Lab n es ((o.set (es.getD i default).src.toNat m).set (es.getD i default).dst.toNat m) ∧ Round es o0 ((o.set (es.getD i default).src.toNat m).set (es.getD i default).dst.toNat m) (i + 1) := by
  obtain ⟨h1, h2, h3, h4⟩ := hA _ (getD_mem (d := default) hi)
  have hmem := getD_mem (d := default) hi
  generalize ha : es.getD i default = a at *
  have e1 : ((a.src.toNat : Nat) : Int) = a.src := Int.toNat_of_nonneg h1
  have e2 : ((a.dst.toNat : Nat) : Int) = a.dst := Int.toNat_of_nonneg h3
  have hs : a.src.toNat < n.toNat := by omega
  have hd : a.dst.toNat < n.toNat := by omega
  obtain ⟨a1, a2, ka, a3⟩ := h.at_ _ hs
  obtain ⟨b1, b2, kb, b3⟩ := h.at_ _ hd
  rw [e1] at a3
  rw [e2] at b3
  have hab : wk (bothA es) 1 a.src a.dst = true := wk_one (mem_both.2 (.inl hmem))
  have hm1 : m ≤ o.getD a.src.toNat 0 := by omega
  have hm2 : m ≤ o.getD a.dst.toNat 0 := by omega
  have hat : ∀ v, ((o.set a.src.toNat m).set a.dst.toNat m).getD v 0 = if v = a.src.toNat ∨ v = a.dst.toNat then m else o.getD v 0 := by
    intro v
    by_cases hv : v = a.dst.toNat
    · subst hv; rw [getD_set_self _ _ _ _ (by rw [List.length_set, h.len]; exact hd), if_pos (.inr rfl)]
    · rw [getD_set_ne _ _ _ _ _ (Ne.symm hv)]
      by_cases hu : v = a.src.toNat
      · subst hu; rw [getD_set_self _ _ _ _ (by rw [h.len]; exact hs), if_pos (.inl rfl)]
      · rw [getD_set_ne _ _ _ _ _ (Ne.symm hu), if_neg (by rintro (h | h) <;> contradiction)]
  have hle : ∀ v, ((o.set a.src.toNat m).set a.dst.toNat m).getD v 0 ≤ o.getD v 0 := by
    intro v
    rw [hat]
    split
    · rename_i hc; rcases hc with rfl | rfl <;> assumption
    · exact Int.le_refl _
  refine ⟨⟨by simp [h.len], fun v hv => ?_⟩, fun v => Int.le_trans (hle v) (hr.le v), fun j hj => ?_⟩
  · rw [hat]
    split
    · rename_i hc
      have hcon : ∃ k, wk (bothA es) k a.src m = true := by
        rcases Int.le_total (o.getD a.src.toNat 0) (o.getD a.dst.toNat 0) with hc | hc
        · rw [hm, Int.min_eq_left hc]; exact ⟨ka, a3⟩
        · rw [hm, Int.min_eq_right hc]; exact ⟨1 + kb, wk_cat b3 hab⟩
      refine ⟨by omega, by omega, ?_⟩
      rcases hc with rfl | rfl
      · rw [e1]; exact hcon
      · rw [e2]
        obtain ⟨k, hk⟩ := hcon
        exact ⟨1 + k, wk_cat hk (wk_rev hab)⟩
    · exact h.at_ v hv
  · rcases Nat.lt_succ_iff_lt_or_eq.1 hj with hj | hj
    · obtain ⟨q1, q2⟩ := hr.arcs j hj
      exact ⟨Int.le_trans (hle _) q1, Int.le_trans (hle _) q2⟩
    · subst hj
      rw [ha, hat, hat, if_pos (.inl rfl), if_pos (.inr rfl)]
      exact ⟨Int.le_trans hm2 (hr.le _), Int.le_trans hm1 (hr.le _)⟩
theorem Near.step {n : Int} {es : List Arc} {o0 o : List Int} {r i : Nat} (h : Near n es o0 r) (hr : Round es o0 o i) (hi : es.length ≤ i) (hA : InR n es) : Near n es o (r + 1) := fun v k u hv hw hk => by
  match k with
  | 0 =>
    have := h v 0 u hv hw (by omega)
    exact Int.le_trans (hr.le v) this
  | k + 1 =>
    obtain ⟨a, ha, e, h1⟩ := wk_succ.1 hw
    obtain ⟨q1, q2, q3, q4⟩ := hA.both a ha
    have e2 : ((a.dst.toNat : Nat) : Int) = a.dst := Int.toNat_of_nonneg q3
    have h2 := h a.dst.toNat k u (by omega) (by rw [e2]; exact h1) (by omega)
    have hv2 : v = a.src.toNat := by omega
    subst hv2
    rcases mem_both.1 ha with ha | ⟨b, hb, rfl⟩
    · obtain ⟨j, hj, rfl⟩ := List.getElem_of_mem ha
      have := (hr.arcs j (by omega)).1
      rw [getD_lt es default j hj] at this
      omega
    · obtain ⟨j, hj, rfl⟩ := List.getElem_of_mem hb
      have := (hr.arcs j (by omega)).2
      rw [getD_lt es default j hj] at this
      unfold backA at h2 ⊢
      simp only at h2 ⊢
      omega
theorem lab_start {n : Int} {es : List Arc} {o : List Int} (hl : o.length = n.toNat) (h : ∀ v, v < n.toNat → o.getD v 0 = v) : Lab n es o ∧ Near n es o 0 :=
  ⟨⟨hl, fun v hv => by rw [h v hv]; exact ⟨by omega, by omega, 0, wk_zero.2 rfl⟩⟩, fun v k u hv hw hk => by
    obtain rfl : k = 0 := by omega
    rw [wk_zero] at hw
    rw [h v hv, hw]; exact Int.le_refl _⟩
theorem finB_dist {n : Int} {es : List Arc} (hn : n ≤ 12) (hA : InR n es) {u v : Int} : finB (dist es u v) = true ↔ ∃ k, wk es k u v = true := by
  unfold finB
  rw [decide_eq_true_iff]
  rcases dist_cases hn hA u v with ⟨k, e, h1, h2, _⟩ | ⟨e, h1⟩
  · rw [e]; exact ⟨fun _ => ⟨k, h2⟩, fun _ => by omega⟩
  · rw [e]
    constructor
    · intro h; omega
    · rintro ⟨k, hk⟩; rw [h1 k] at hk; cases hk
theorem row_len {n : Int} {es : List Arc} {u : Nat} (hu : (u : Int) < n) : ((waysOf n es).getD u []).length = n.toNat := by rw [waysOf_row hu]; simp
theorem parts_end {n : Int} {es : List Arc} {o : List Int} {r : Nat} (h : Lab n es o) (hn : Near n es o r) (hr : n.toNat ≤ r) (h12 : n ≤ 12) (hA : InR n es) : o = joinedOf n es := by
  refine list_ext 0 (by rw [h.len, joinedOf_len]) fun v hv => ?_
  rw [h.len] at hv
  obtain ⟨a1, a2, k, a3⟩ := h.at_ v hv
  have hvn : (v : Int) < n := by omega
  unfold joinedOf
  rw [getD_lt ((List.range n.toNat).map _) 0 v (by simpa using hv)]
  simp only [List.getElem_map, List.getElem_range]
  have hat : ∀ j : Nat, j < n.toNat → ((waysOf n (bothA es)).getD v []).getD j 0 = dist (bothA es) v j := fun j hj => waysOf_at hvn (by omega)
  have hno : ∀ j, j < (o.getD v 0).toNat → finB (((waysOf n (bothA es)).getD v []).getD j 0) = false := fun j hj => by
    rw [hat j (by omega)]
    cases hc : finB (dist (bothA es) v j)
    · rfl
    · obtain ⟨k, hk⟩ := (finB_dist h12 hA.both).1 hc
      obtain ⟨k', h1, h2, h3⟩ := wk_small hA.both (by omega) hvn hk
      have := hn v k' j hv h3 (by omega)
      omega
  have hyes : finB (((waysOf n (bothA es)).getD v []).getD (o.getD v 0).toNat 0) = true := by
    rw [hat _ (by omega), finB_dist h12 hA.both, Int.toNat_of_nonneg a1]
    exact ⟨k, a3⟩
  rw [idxOf_at hno (by rw [row_len hvn]; omega) hyes, Int.toNat_of_nonneg a1]
end Go.Ab
namespace Go.Ab
structure Bfs2 (n s : Int) (es : List Arc) (fr by_ todo : List Int) : Prop where
  len1 : fr.length = n.toNat
  len2 : by_.length = n.toNat
  src : fr.getD s.toNat 0 = 0
  at_ : ∀ v : Nat, v < n.toNat → fr.getD v 0 = -1 ∨ (0 ≤ fr.getD v 0 ∧ wk es (fr.getD v 0).toNat s v = true ∧ (fr.getD v 0 = 0 → (v : Int) = s) ∧
    (0 < fr.getD v 0 → 0 ≤ by_.getD v 0 ∧ by_.getD v 0 < es.length ∧ (es.getD (by_.getD v 0).toNat default).dst = v ∧ fr.getD (es.getD (by_.getD v 0).toNat default).src.toNat 0 = fr.getD v 0 - 1))
  queue : ∀ u ∈ todo, 0 ≤ u ∧ u < n ∧ 0 ≤ fr.getD u.toNat 0
  sorted : todo.Pairwise (fun a b => fr.getD a.toNat 0 ≤ fr.getD b.toNat 0)
  front : 0 < todo.length → ∀ v : Nat, v < n.toNat → fr.getD v 0 ≤ fr.getD (todo.getD 0 0).toNat 0 + 1
  closed : ∀ v : Nat, v < n.toNat → 0 ≤ fr.getD v 0 → (v : Int) ∉ todo → ∀ a ∈ es, a.src = v → 0 ≤ fr.getD a.dst.toNat 0 ∧ fr.getD a.dst.toNat 0 ≤ fr.getD v 0 + 1
structure Seen (es : List Arc) (fr : List Int) (at_ : Int) (i : Nat) : Prop where
  arcs : ∀ j, j < i → (es.getD j default).src = at_ → 0 ≤ fr.getD (es.getD j default).dst.toNat 0 ∧ fr.getD (es.getD j default).dst.toNat 0 ≤ fr.getD at_.toNat 0 + 1
structure FarOk (n : Int) (es : List Arc) (s : Int) : Prop where
  ok : GOk n es (-10000)
  s0 : 0 ≤ s
  s1 : s < n
end Go.Ab
