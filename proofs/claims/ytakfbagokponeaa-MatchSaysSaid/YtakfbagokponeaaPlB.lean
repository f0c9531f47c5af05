/- Plain laws, one behind the other. -/
import Derived.Test.YtakfbagokponeaaPlA
/- Of shortest ways: the plain laws. -/
namespace Go.Ab
def InR (n : Int) (es : List Arc) : Prop := ∀ a ∈ es, 0 ≤ a.src ∧ a.src < n ∧ 0 ≤ a.dst ∧ a.dst < n
/-- Is there a walk of so many arcs? -/
def wk (es : List Arc) : Nat → Int → Int → Bool
  | 0, u, v => decide (u = v)
  | k + 1, u, v => es.any fun a => decide (a.src = u) && wk es k a.dst v
theorem wk_zero {es : List Arc} {u v : Int} : wk es 0 u v = true ↔ u = v := by simp [wk]
theorem wk_succ {es : List Arc} {k : Nat} {u v : Int} : wk es (k + 1) u v = true ↔ ∃ a ∈ es, a.src = u ∧ wk es k a.dst v = true := by simp [wk]
theorem wk_one {es : List Arc} {a : Arc} (ha : a ∈ es) : wk es 1 a.src a.dst = true := wk_succ.2 ⟨a, ha, rfl, wk_zero.2 rfl⟩
theorem wk_cat {es : List Arc} {w v : Int} {j : Nat} (h2 : wk es j w v = true) : ∀ {i : Nat} {u : Int}, wk es i u w = true → wk es (i + j) u v = true
  | 0, u, h => by rw [wk_zero] at h; subst h; rw [Nat.zero_add]; exact h2
  | i + 1, u, h => by
    obtain ⟨a, ha, e, h1⟩ := wk_succ.1 h
    rw [Nat.succ_add]
    exact wk_succ.2 ⟨a, ha, e, wk_cat h2 h1⟩
/-- A walk, whose inner nodes lie below m. -/
inductive Wm (es : List Arc) (m : Int) : Int → Int → Nat → Prop
  | nil (u : Int) : Wm es m u u 0
  | arc {a : Arc} (h : a ∈ es) : Wm es m a.src a.dst 1
  | join {u w v : Int} {i j : Nat} (h0 : 0 ≤ w) (h1 : w < m) (h2 : Wm es m u w i) (h3 : Wm es m w v j) : Wm es m u v (i + j)
theorem Wm.wk {es : List Arc} {m u v : Int} {k : Nat} (h : Wm es m u v k) : wk es k u v = true := by
  induction h with
  | nil u => exact wk_zero.2 rfl
  | arc h => exact wk_one h
  | join _ _ _ _ i1 i2 => exact wk_cat i2 i1
theorem Wm.split {es : List Arc} {m u v : Int} {k : Nat} (h : Wm es (m + 1) u v k) : (∃ k', k' ≤ k ∧ Wm es m u v k') ∨ ∃ i j, i + j ≤ k ∧ Wm es m u m i ∧ Wm es m m v j := by
  induction h with
  | nil u => exact .inl ⟨0, Nat.le_refl _, .nil u⟩
  | arc h => exact .inl ⟨1, Nat.le_refl _, .arc h⟩
  | @join u w v i j h0 h1 _ _ i1 i2 =>
    by_cases hw : w < m
    · rcases i1 with ⟨k1, a1, a2⟩ | ⟨x1, y1, a1, a2, a3⟩
      · rcases i2 with ⟨k2, b1, b2⟩ | ⟨x2, y2, b1, b2, b3⟩
        · exact .inl ⟨k1 + k2, by omega, .join h0 hw a2 b2⟩
        · exact .inr ⟨k1 + x2, y2, by omega, .join h0 hw a2 b2, b3⟩
      · rcases i2 with ⟨k2, b1, b2⟩ | ⟨x2, y2, b1, b2, b3⟩
        · exact .inr ⟨x1, y1 + k2, by omega, a2, .join h0 hw a3 b2⟩
        · exact .inr ⟨x1, y2, by omega, a2, b3⟩
    · obtain rfl : w = m := by omega
      rcases i1 with ⟨k1, a1, a2⟩ | ⟨x1, y1, a1, a2, a3⟩
      · rcases i2 with ⟨k2, b1, b2⟩ | ⟨x2, y2, b1, b2, b3⟩
        · exact .inr ⟨k1, k2, by omega, a2, b2⟩
        · exact .inr ⟨k1, y2, by omega, a2, b3⟩
      · rcases i2 with ⟨k2, b1, b2⟩ | ⟨x2, y2, b1, b2, b3⟩
        · exact .inr ⟨x1, k2, by omega, a2, b2⟩
        · exact .inr ⟨x1, y2, by omega, a2, b3⟩
theorem Wm.none {es : List Arc} {u v : Int} {k : Nat} (h : Wm es 0 u v k) : (u = v ∧ k = 0) ∨ ∃ a ∈ es, a.src = u ∧ a.dst = v ∧ k = 1 := by
  cases h with
  | nil u => exact .inl ⟨rfl, rfl⟩
  | arc h => exact .inr ⟨_, h, rfl, rfl, rfl⟩
  | join h0 h1 => omega
def wlim : Nat := 4097
/-- How many arcs a shortest walk has. -/
def dist (es : List Arc) (u v : Int) : Int := match (List.range wlim).find? (fun k => wk es k u v) with | some k => (k : Int) | none => 1099511627776
/-! ### Tables -/
def at2 (D : List (List Int)) (u v : Nat) : Int := (D.getD u []).getD v 0
def put2 (D : List (List Int)) (f t : Nat) (x : Int) : List (List Int) := D.set f ((D.getD f []).set t x)
structure Sq (n : Nat) (D : List (List Int)) : Prop where
  len : D.length = n
  row : ∀ r, r < n → (D.getD r []).length = n
theorem at_put {n : Nat} {D : List (List Int)} (h : Sq n D) {f t : Nat} (hf : f < n) (ht : t < n) (x : Int) (u v : Nat) : at2 (put2 D f t x) u v = if u = f ∧ v = t then x else at2 D u v := by
  unfold at2 put2
  by_cases hu : u = f
  · subst hu
    rw [getD_set_self _ _ _ _ (by rw [h.len]; exact hf)]
    by_cases hv : v = t
    · subst hv
      rw [if_pos ⟨rfl, rfl⟩, getD_set_self _ _ _ _ (by rw [h.row _ hf]; exact ht)]
    · rw [if_neg (fun e => hv e.2), getD_set_ne _ _ _ _ _ (Ne.symm hv)]
  · rw [if_neg (fun e => hu e.1), getD_set_ne _ _ _ _ _ (Ne.symm hu)]
theorem Sq.put {n : Nat} {D : List (List Int)} (h : Sq n D) {f t : Nat} {x : Int} : Sq n (put2 D f t x) := by
  refine ⟨by unfold put2; rw [List.length_set]; exact h.len, fun r hr => ?_⟩
  unfold put2
  by_cases hu : r = f
  · subst hu
    rw [getD_set_self _ _ _ _ (by rw [h.len]; exact hr), List.length_set]; exact h.row r hr
  · rw [getD_set_ne _ _ _ _ _ (Ne.symm hu)]; exact h.row r hr
theorem Sq.eq {n : Nat} {D : List (List Int)} (h : Sq n D) (w : Nat → Nat → Int) (he : ∀ u v, u < n → v < n → at2 D u v = w u v) : D = (List.range n).map fun u => (List.range n).map fun v => w u v := by
  refine list_ext [] (by rw [h.len]; simp) fun u hu => ?_
  rw [h.len] at hu
  refine list_ext 0 (by rw [h.row u hu, getD_lt _ _ _ (by simpa using hu)]; simp) fun v hv => ?_
  rw [h.row u hu] at hv
  have h1 := he u v hu hv
  unfold at2 at h1
  rw [h1]
  rw [getD_lt ((List.range n).map fun u => (List.range n).map fun v => w u v) _ _ (by simpa using hu)]
  simp only [List.getElem_map, List.getElem_range]
  rw [getD_lt _ _ _ (by simpa using hv)]
  simp only [List.getElem_map, List.getElem_range]

/-! ### The shortest walks, table by table -/
def Sound (n : Nat) (es : List Arc) (D : List (List Int)) : Prop := ∀ u v : Nat, u < n → v < n → 0 ≤ at2 D u v ∧ at2 D u v ≤ 1099511627776 ∧ (at2 D u v = 1099511627776 ∨ ∃ k : Nat, at2 D u v = k ∧ wk es k u v = true)
theorem Sound.put {n : Nat} {es : List Arc} {D : List (List Int)} (hs : Sq n D) (h : Sound n es D) {f t : Nat} (hf : f < n) (ht : t < n) {x : Int} (h0 : 0 ≤ x) (h1 : x ≤ 1099511627776) (h2 : x = 1099511627776 ∨ ∃ k : Nat, x = k ∧ wk es k f t = true) : Sound n es (put2 D f t x) := fun u v hu hv => by
  rw [at_put hs hf ht]
  by_cases he : u = f ∧ v = t
  · obtain ⟨rfl, rfl⟩ := he
    rw [if_pos ⟨rfl, rfl⟩]; exact ⟨h0, h1, h2⟩
  · rw [if_neg he]; exact h u v hu hv
theorem put_le {n : Nat} {D : List (List Int)} (hs : Sq n D) {f t : Nat} (hf : f < n) (ht : t < n) {x : Int} (hx : x ≤ at2 D f t) (u v : Nat) : at2 (put2 D f t x) u v ≤ at2 D u v := by
  rw [at_put hs hf ht]
  by_cases he : u = f ∧ v = t
  · obtain ⟨rfl, rfl⟩ := he
    rw [if_pos ⟨rfl, rfl⟩]; exact hx
  · rw [if_neg he]; exact Int.le_refl _
/-- Behind the first arcs. -/
structure Arcs1 (n : Nat) (es : List Arc) (D : List (List Int)) (k : Nat) : Prop where
  sq : Sq n D
  sound : Sound n es D
  self : ∀ u, u < n → at2 D u u ≤ 0
  arcs : ∀ j, j < k → at2 D (es.getD j default).src.toNat (es.getD j default).dst.toNat ≤ 1
theorem Arcs1.step {n : Nat} {es : List Arc} {D : List (List Int)} {k : Nat} (h : Arcs1 n es D k) (hA : InR n es) (hk : k < es.length) : Arcs1 n es (put2 D (es.getD k default).src.toNat (es.getD k default).dst.toNat (min (at2 D (es.getD k default).src.toNat (es.getD k default).dst.toNat) 1)) (k + 1) := by
  obtain ⟨h1, h2, h3, h4⟩ := hA _ (getD_mem (d := default) hk)
  have hf : (es.getD k default).src.toNat < n := by omega
  have ht : (es.getD k default).dst.toNat < n := by omega
  obtain ⟨a1, a2, a3⟩ := h.sound _ _ hf ht
  have hx : min (at2 D (es.getD k default).src.toNat (es.getD k default).dst.toNat) 1 ≤ at2 D (es.getD k default).src.toNat (es.getD k default).dst.toNat := Int.min_le_left _ _
  have hw := wk_one (getD_mem (d := default) hk)
  have e1 : (((es.getD k default).src.toNat : Nat) : Int) = (es.getD k default).src := Int.toNat_of_nonneg h1
  have e2 : (((es.getD k default).dst.toNat : Nat) : Int) = (es.getD k default).dst := Int.toNat_of_nonneg h3
  refine ⟨h.sq.put, h.sound.put h.sq hf ht (by omega) (by omega) ?_, fun u hu => Int.le_trans (put_le h.sq hf ht hx u u) (h.self u hu), fun j hj => ?_⟩
  · rcases Int.lt_or_le (at2 D (es.getD k default).src.toNat (es.getD k default).dst.toNat) 1 with hc | hc
    · rw [Int.min_eq_left (by omega)]; exact a3
    · rw [Int.min_eq_right hc]; exact .inr ⟨1, rfl, by rw [e1, e2]; exact hw⟩
  · rcases Nat.lt_succ_iff_lt_or_eq.1 hj with hj | hj
    · exact Int.le_trans (put_le h.sq hf ht hx _ _) (h.arcs j hj)
    · subst hj
      rw [at_put h.sq hf ht, if_pos ⟨rfl, rfl⟩]
      exact Int.min_le_right _ _
def Comp (n : Nat) (es : List Arc) (D : List (List Int)) (m : Nat) : Prop := ∀ (u v : Nat) (k : Nat), u < n → v < n → Wm es m u v k → at2 D u v ≤ k
def Done (n : Nat) (es : List Arc) (D : List (List Int)) (m i k : Nat) : Prop := ∀ (u v a b : Nat), u < n → v < n → (u < i ∨ (u = i ∧ v < k)) → Wm es m u m a → Wm es m m v b → at2 D u v ≤ (a : Int) + b
structure Ways1 (n : Nat) (es : List Arc) (D : List (List Int)) (m i k : Nat) : Prop where
  sq : Sq n D
  sound : Sound n es D
  comp : Comp n es D m
  done : Done n es D m i k
theorem Ways1.step {n : Nat} {es : List Arc} {D : List (List Int)} {m i k : Nat} (h : Ways1 n es D m i k) (hm : m < n) (hi : i < n) (hk : k < n) : Ways1 n es (put2 D i k (min (at2 D i k) (at2 D i m + at2 D m k))) m i (k + 1) := by
  obtain ⟨a1, a2, a3⟩ := h.sound i k hi hk
  obtain ⟨b1, b2, b3⟩ := h.sound i m hi hm
  obtain ⟨c1, c2, c3⟩ := h.sound m k hm hk
  have hx : min (at2 D i k) (at2 D i m + at2 D m k) ≤ at2 D i k := Int.min_le_left _ _
  refine ⟨h.sq.put, h.sound.put h.sq hi hk (by omega) (by omega) ?_, fun u v j hu hv hw => Int.le_trans (put_le h.sq hi hk hx u v) (h.comp u v j hu hv hw), fun u v a b hu hv hc ha hb => ?_⟩
  · rcases Int.lt_or_le (at2 D i m + at2 D m k) (at2 D i k) with hc | hc
    · rw [Int.min_eq_right (by omega)]
      rcases b3 with b3 | ⟨x, b3, b4⟩
      · omega
      · rcases c3 with c3 | ⟨y, c3, c4⟩
        · omega
        · exact .inr ⟨x + y, by omega, wk_cat c4 b4⟩
    · rw [Int.min_eq_left hc]; exact a3
  · by_cases he : u = i ∧ v = k
    · obtain ⟨rfl, rfl⟩ := he
      rw [at_put h.sq hi hk, if_pos ⟨rfl, rfl⟩]
      have h1 := h.comp u m a hi hm ha
      have h2 := h.comp m v b hm hk hb
      have := Int.min_le_right (at2 D u v) (at2 D u m + at2 D m v)
      omega
    · exact Int.le_trans (put_le h.sq hi hk hx u v) (h.done u v a b hu hv (by omega) ha hb)
theorem Ways1.row {n : Nat} {es : List Arc} {D : List (List Int)} {m i k : Nat} (h : Ways1 n es D m i k) (hk : n ≤ k) : Ways1 n es D m (i + 1) 0 :=
  ⟨h.sq, h.sound, h.comp, fun u v a b hu hv hc ha hb => h.done u v a b hu hv (by omega) ha hb⟩
theorem Ways1.all {n : Nat} {es : List Arc} {D : List (List Int)} {m i : Nat} (h : Ways1 n es D m i 0) (hi : n ≤ i) : Ways1 n es D (m + 1) 0 0 :=
  ⟨h.sq, h.sound, fun u v k hu hv hw => by
    rcases Wm.split (show Wm es ((m : Int) + 1) u v k from hw) with ⟨k1, a1, a2⟩ | ⟨x, y, a1, a2, a3⟩
    · have := h.comp u v k1 hu hv a2; omega
    · have := h.done u v x y hu hv (by omega) a2 a3; omega, fun u v a b _ _ h => by omega⟩
theorem InR.both {n : Int} {es : List Arc} (h : InR n es) : InR n (bothA es) := fun a ha => by
  unfold bothA at ha
  rw [List.mem_append, List.mem_map] at ha
  rcases ha with ha | ⟨b, hb, rfl⟩
  · exact h a ha
  · obtain ⟨h1, h2, h3, h4⟩ := h b hb
    exact ⟨h3, h4, h1, h2⟩
theorem GOk.inR {n : Int} {es : List Arc} {k : Int} (h : GOk n es k) : InR n es := fun a ha => by
  obtain ⟨h1, h2, h3, h4, _⟩ := h.arc a ha
  exact ⟨h1, h2, h3, h4⟩
end Go.Ab

/- Of what is joined: the plain laws. -/
namespace Go.Ab
/-! ### Walks turned round; short walks -/
theorem wk_snoc {es : List Arc} : ∀ {k : Nat} {u v : Int}, wk es (k + 1) u v = true → ∃ a ∈ es, wk es k u a.src = true ∧ a.dst = v
  | 0, u, v, h => by
    obtain ⟨a, ha, e, h1⟩ := wk_succ.1 h
    rw [wk_zero] at h1
    exact ⟨a, ha, wk_zero.2 e.symm, h1⟩
  | k + 1, u, v, h => by
    obtain ⟨a, ha, e, h1⟩ := wk_succ.1 h
    obtain ⟨b, hb, h2, h3⟩ := wk_snoc h1
    exact ⟨b, hb, wk_succ.2 ⟨a, ha, e, h2⟩, h3⟩
theorem mem_both {es : List Arc} {a : Arc} : a ∈ bothA es ↔ a ∈ es ∨ ∃ b ∈ es, a = backA b := by
  unfold bothA
  rw [List.mem_append, List.mem_map]
  constructor
  · rintro (h | ⟨b, hb, rfl⟩)
    · exact .inl h
    · exact .inr ⟨b, hb, rfl⟩
  · rintro (h | ⟨b, hb, rfl⟩)
    · exact .inl h
    · exact .inr ⟨b, hb, rfl⟩
theorem back_both {es : List Arc} {a : Arc} (h : a ∈ bothA es) : backA a ∈ bothA es := by
  rcases mem_both.1 h with h | ⟨b, hb, rfl⟩
  · exact mem_both.2 (.inr ⟨a, h, rfl⟩)
  · exact mem_both.2 (.inl (by unfold backA; exact hb))
theorem wk_rev {es : List Arc} : ∀ {k : Nat} {u v : Int}, wk (bothA es) k u v = true → wk (bothA es) k v u = true
  | 0, u, v, h => by rw [wk_zero] at h ⊢; exact h.symm
  | k + 1, u, v, h => by
    obtain ⟨a, ha, h1, h2⟩ := wk_snoc h
    exact wk_succ.2 ⟨backA a, back_both ha, h2, wk_rev h1⟩
/-! ### Labels -/
structure Lab (n : Int) (es : List Arc) (o : List Int) : Prop where
  len : o.length = n.toNat
  at_ : ∀ v : Nat, v < n.toNat → 0 ≤ o.getD v 0 ∧ o.getD v 0 < n ∧ ∃ k, wk (bothA es) k v (o.getD v 0) = true
def Near (n : Int) (es : List Arc) (o : List Int) (r : Nat) : Prop := ∀ (v k : Nat) (u : Int), v < n.toNat → wk (bothA es) k v u = true → k ≤ r → o.getD v 0 ≤ u
structure Round (es : List Arc) (o0 o : List Int) (i : Nat) : Prop where
  le : ∀ v, o.getD v 0 ≤ o0.getD v 0
  arcs : ∀ j, j < i → o.getD (es.getD j default).src.toNat 0 ≤ o0.getD (es.getD j default).dst.toNat 0 ∧ o.getD (es.getD j default).dst.toNat 0 ≤ o0.getD (es.getD j default).src.toNat 0
theorem Round.start {es : List Arc} {o : List Int} : Round es o o 0 := ⟨fun _ => Int.le_refl _, fun j hj => by omega⟩
theorem Lab.step {n : Int} {es : List Arc} {o0 o : List Int} {i : Nat} (h : Lab n es o) (hr : Round es o0 o i) (hA : InR n es) (hi : i < es.length) {m : Int} (hm : m = min (o.getD (es.getD i default).src.toNat 0) (o.getD (es.getD i default).dst.toNat 0)) :
    Lab n es ((o.set (es.getD i default).src.toNat m).set (es.getD i default).dst.toNat m) ∧ Round es o0 ((o.set (es.getD i default).src.toNat m).set (es.getD i default).dst.toNat m) (i + 1) := by
  obtain ⟨h1, h2, h3, h4⟩ := hA _ (getD_mem (d := default) hi)
  have hmem := getD_mem (d := default) hi
  generalize ha : es.getD i default = a at *
  have e1 : ((a.src.toNat : Nat) : Int) = a.src := Int.toNat_of_nonneg h1
  have e2 : ((a.dst.toNat : Nat) : Int) = a.dst := Int.toNat_of_nonneg h3
  have hs : a.src.toNat < n.toNat := by omega
  have hd : a.dst.toNat < n.toNat := by omega
  obtain ⟨a1, a2, ka, a3⟩ := h.at_ _ hs
  obtain ⟨b1, b2, kb, b3⟩ := h.at_ _ hd
  rw [e1] at a3
  rw [e2] at b3
  have hab : wk (bothA es) 1 a.src a.dst = true := wk_one (mem_both.2 (.inl hmem))
  have hm1 : m ≤ o.getD a.src.toNat 0 := by omega
  have hm2 : m ≤ o.getD a.dst.toNat 0 := by omega
  have hat : ∀ v, ((o.set a.src.toNat m).set a.dst.toNat m).getD v 0 = if v = a.src.toNat ∨ v = a.dst.toNat then m else o.getD v 0 := by
    intro v
    by_cases hv : v = a.dst.toNat
    · subst hv; rw [getD_set_self _ _ _ _ (by rw [List.length_set, h.len]; exact hd), if_pos (.inr rfl)]
    · rw [getD_set_ne _ _ _ _ _ (Ne.symm hv)]
      by_cases hu : v = a.src.toNat
      · subst hu; rw [getD_set_self _ _ _ _ (by rw [h.len]; exact hs), if_pos (.inl rfl)]
      · rw [getD_set_ne _ _ _ _ _ (Ne.symm hu), if_neg (by rintro (h | h) <;> contradiction)]
  have hle : ∀ v, ((o.set a.src.toNat m).set a.dst.toNat m).getD v 0 ≤ o.getD v 0 := by
    intro v
    rw [hat]
    split
    · rename_i hc; rcases hc with rfl | rfl <;> assumption
    · exact Int.le_refl _
  refine ⟨⟨by simp [h.len], fun v hv => ?_⟩, fun v => Int.le_trans (hle v) (hr.le v), fun j hj => ?_⟩
  · rw [hat]
    split
    · rename_i hc
      have hcon : ∃ k, wk (bothA es) k a.src m = true := by
        rcases Int.le_total (o.getD a.src.toNat 0) (o.getD a.dst.toNat 0) with hc | hc
        · rw [hm, Int.min_eq_left hc]; exact ⟨ka, a3⟩
        · rw [hm, Int.min_eq_right hc]; exact ⟨1 + kb, wk_cat b3 hab⟩
      refine ⟨by omega, by omega, ?_⟩
      rcases hc with rfl | rfl
      · rw [e1]; exact hcon
      · rw [e2]
        obtain ⟨k, hk⟩ := hcon
        exact ⟨1 + k, wk_cat hk (wk_rev hab)⟩
    · exact h.at_ v hv
  · rcases Nat.lt_succ_iff_lt_or_eq.1 hj with hj | hj
    · obtain ⟨q1, q2⟩ := hr.arcs j hj
      exact ⟨Int.le_trans (hle _) q1, Int.le_trans (hle _) q2⟩
    · subst hj
      rw [ha, hat, hat, if_pos (.inl rfl), if_pos (.inr rfl)]
      exact ⟨Int.le_trans hm2 (hr.le _), Int.le_trans hm1 (hr.le _)⟩
theorem Near.step {n : Int} {es : List Arc} {o0 o : List Int} {r i : Nat} (h : Near n es o0 r) (hr : Round es o0 o i) (hi : es.length ≤ i) (hA : InR n es) : Near n es o (r + 1) := fun v k u hv hw hk => by
  match k with
  | 0 =>
    have := h v 0 u hv hw (by omega)
    exact Int.le_trans (hr.le v) this
  | k + 1 =>
    obtain ⟨a, ha, e, h1⟩ := wk_succ.1 hw
    obtain ⟨q1, q2, q3, q4⟩ := hA.both a ha
    have e2 : ((a.dst.toNat : Nat) : Int) = a.dst := Int.toNat_of_nonneg q3
    have h2 := h a.dst.toNat k u (by omega) (by rw [e2]; exact h1) (by omega)
    have hv2 : v = a.src.toNat := by omega
    subst hv2
    rcases mem_both.1 ha with ha | ⟨b, hb, rfl⟩
    · obtain ⟨j, hj, rfl⟩ := List.getElem_of_mem ha
      have := (hr.arcs j (by omega)).1
      rw [getD_lt es default j hj] at this
      omega
    · obtain ⟨j, hj, rfl⟩ := List.getElem_of_mem hb
      have := (hr.arcs j (by omega)).2
      rw [getD_lt es default j hj] at this
      unfold backA at h2 ⊢
      simp only at h2 ⊢
      omega
end Go.Ab

/- Of a search from a node: the plain laws. -/
namespace Go.Ab
structure Bfs2 (n s : Int) (es : List Arc) (fr by_ todo : List Int) : Prop where
  len1 : fr.length = n.toNat
  len2 : by_.length = n.toNat
  src : fr.getD s.toNat 0 = 0
  at_ : ∀ v : Nat, v < n.toNat → fr.getD v 0 = -1 ∨ (0 ≤ fr.getD v 0 ∧ wk es (fr.getD v 0).toNat s v = true ∧ (fr.getD v 0 = 0 → (v : Int) = s) ∧
    (0 < fr.getD v 0 → 0 ≤ by_.getD v 0 ∧ by_.getD v 0 < es.length ∧ (es.getD (by_.getD v 0).toNat default).dst = v ∧ fr.getD (es.getD (by_.getD v 0).toNat default).src.toNat 0 = fr.getD v 0 - 1))
  queue : ∀ u ∈ todo, 0 ≤ u ∧ u < n ∧ 0 ≤ fr.getD u.toNat 0
  sorted : todo.Pairwise (fun a b => fr.getD a.toNat 0 ≤ fr.getD b.toNat 0)
  front : 0 < todo.length → ∀ v : Nat, v < n.toNat → fr.getD v 0 ≤ fr.getD (todo.getD 0 0).toNat 0 + 1
  closed : ∀ v : Nat, v < n.toNat → 0 ≤ fr.getD v 0 → (v : Int) ∉ todo → ∀ a ∈ es, a.src = v → 0 ≤ fr.getD a.dst.toNat 0 ∧ fr.getD a.dst.toNat 0 ≤ fr.getD v 0 + 1
theorem Bfs2.in_ {n s : Int} {es : List Arc} {fr by_ todo : List Int} (h : Bfs2 n s es fr by_ todo) {v : Nat} (hv : v < n.toNat) : -1 ≤ fr.getD v 0 := by
  rcases h.at_ v hv with h | h <;> omega
/-- What is seen of an arc that is looked at. -/
structure Seen (es : List Arc) (fr : List Int) (at_ : Int) (i : Nat) : Prop where
  arcs : ∀ j, j < i → (es.getD j default).src = at_ → 0 ≤ fr.getD (es.getD j default).dst.toNat 0 ∧ fr.getD (es.getD j default).dst.toNat 0 ≤ fr.getD at_.toNat 0 + 1
/-! ### Ways -/
structure FarOk (n : Int) (es : List Arc) (s : Int) : Prop where
  ok : GOk n es (-10000)
  s0 : 0 ≤ s
  s1 : s < n
end Go.Ab
