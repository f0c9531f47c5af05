/- Plain laws, one behind the other. -/
import Derived.Test.YtakfbagokponeaaPlA
namespace Go.Ab
def InR (n : Int) (es : List Arc) : Prop := ∀ a ∈ es, 0 ≤ a.src ∧ a.src < n ∧ 0 ≤ a.dst ∧ a.dst < n
def wk (es : List Arc) : Nat → Int → Int → Bool
  | 0, u, v => decide (u = v)
  | k + 1, u, v => es.any fun a => decide (a.src = u) && wk es k a.dst v
theorem wk_zero {es : List Arc} {u v : Int} : wk es 0 u v = true ↔ u = v := by simp [wk]
theorem wk_succ {es : List Arc} {k : Nat} {u v : Int} : wk es (k + 1) u v = true ↔ ∃ a ∈ es, a.src = u ∧ wk es k a.dst v = true := by simp [wk]
theorem wk_one {es : List Arc} {a : Arc} (ha : a ∈ es) : wk es 1 a.src a.dst = true := wk_succ.2 ⟨a, ha, rfl, wk_zero.2 rfl⟩
theorem wk_cat {es : List Arc} {w v : Int} {j : Nat} (h2 : wk es j w v = true) : ∀ {i : Nat} {u : Int}, wk es i u w = true → wk es (i + j) u v = true
  | 0, u, h => by rw [wk_zero] at h; subst h; rw [Nat.zero_add]; exact h2
  | i + 1, u, h => by
    obtain ⟨a, ha, e, h1⟩ := wk_succ.1 h
    rw [Nat.succ_add]
    exact wk_succ.2 ⟨a, ha, e, wk_cat h2 h1⟩
inductive Wm (es : List Arc) (m : Int) : Int → Int → Nat → Prop
  | nil (u : Int) : Wm es m u u 0
  | arc {a : Arc} (h : a ∈ es) : Wm es m a.src a.dst 1
  | join {u w v : Int} {i j : Nat} (h0 : 0 ≤ w) (h1 : w < m) (h2 : Wm es m u w i) (h3 : Wm es m w v j) : Wm es m u v (i + j)
theorem Wm.wk {es : List Arc} {m u v : Int} {k : Nat} (h : Wm es m u v k) : wk es k u v = true := by
  induction h with
  | nil u => exact wk_zero.2 rfl
  | arc h => exact wk_one h
  | join _ _ _ _ i1 i2 => exact wk_cat i2 i1
theorem Wm.of_wk {n : Int} {es : List Arc} (hA : InR n es) {v : Int} : ∀ {k : Nat} {u : Int}, Go.Ab.wk es k u v = true → Wm es n u v k
  | 0, u, h => by rw [wk_zero] at h; subst h; exact .nil u
  | k + 1, u, h => by
    obtain ⟨a, ha, e, h1⟩ := wk_succ.1 h
    subst e
    obtain ⟨_, _, h3, h4⟩ := hA a ha
    rw [Nat.add_comm]
    exact .join h3 h4 (.arc ha) (Wm.of_wk hA h1)
theorem Wm.split {es : List Arc} {m u v : Int} {k : Nat} (h : Wm es (m + 1) u v k) : (∃ k', k' ≤ k ∧ Wm es m u v k') ∨ ∃ i j, i + j ≤ k ∧ Wm es m u m i ∧ Wm es m m v j := by
  induction h with
  | nil u => exact .inl ⟨0, Nat.le_refl _, .nil u⟩
  | arc h => exact .inl ⟨1, Nat.le_refl _, .arc h⟩
  | @join u w v i j h0 h1 _ _ i1 i2 =>
    by_cases hw : w < m
    · rcases i1 with ⟨k1, a1, a2⟩ | ⟨x1, y1, a1, a2, a3⟩
      · rcases i2 with ⟨k2, b1, b2⟩ | ⟨x2, y2, b1, b2, b3⟩
        · exact .inl ⟨k1 + k2, by omega, .join h0 hw a2 b2⟩
        · exact .inr ⟨k1 + x2, y2, by omega, .join h0 hw a2 b2, b3⟩
      · rcases i2 with ⟨k2, b1, b2⟩ | ⟨x2, y2, b1, b2, b3⟩
        · exact .inr ⟨x1, y1 + k2, by omega, a2, .join h0 hw a3 b2⟩
        · exact .inr ⟨x1, y2, by omega, a2, b3⟩
    · obtain rfl : w = m := by omega
      rcases i1 with ⟨k1, a1, a2⟩ | ⟨x1, y1, a1, a2, a3⟩
      · rcases i2 with ⟨k2, b1, b2⟩ | ⟨x2, y2, b1, b2, b3⟩
        · exact .inr ⟨k1, k2, by omega, a2, b2⟩
        · exact .inr ⟨k1, y2, by omega, a2, b3⟩
      · rcases i2 with ⟨k2, b1, b2⟩ | ⟨x2, y2, b1, b2, b3⟩
        · exact .inr ⟨x1, k2, by omega, a2, b2⟩
        · exact .inr ⟨x1, y2, by omega, a2, b3⟩
theorem Wm.none {es : List Arc} {u v : Int} {k : Nat} (h : Wm es 0 u v k) : (u = v ∧ k = 0) ∨ ∃ a ∈ es, a.src = u ∧ a.dst = v ∧ k = 1 := by
  cases h with
  | nil u => exact .inl ⟨rfl, rfl⟩
  | arc h => exact .inr ⟨_, h, rfl, rfl, rfl⟩
  | join h0 h1 => omega
theorem Wm.short {es : List Arc} : ∀ {m : Nat} {u v : Int} {k : Nat}, Wm es m u v k → ∃ k', k' ≤ k ∧ k' ≤ 2 ^ m ∧ Wm es m u v k'
  | 0, u, v, k, h => ⟨k, Nat.le_refl _, by rcases h.none with ⟨_, h⟩ | ⟨_, _, _, _, h⟩ <;> (rw [h]; decide), h⟩
  | m + 1, u, v, k, h => by
    have hmono : ∀ {u v : Int} {k : Nat}, Wm es (m : Int) u v k → Wm es ((m + 1 : Nat) : Int) u v k := by
      intro u v k h
      induction h with
      | nil u => exact .nil u
      | arc h => exact .arc h
      | join h0 h1 _ _ i1 i2 => exact .join h0 (by omega) i1 i2
    rcases Wm.split (show Wm es ((m : Int) + 1) u v k from h) with ⟨k1, a1, a2⟩ | ⟨i, j, a1, a2, a3⟩
    · obtain ⟨k2, b1, b2, b3⟩ := Wm.short a2
      exact ⟨k2, by omega, by rw [Nat.pow_succ]; omega, hmono b3⟩
    · obtain ⟨i2, b1, b2, b3⟩ := Wm.short a2
      obtain ⟨j2, c1, c2, c3⟩ := Wm.short a3
      exact ⟨i2 + j2, by omega, by rw [Nat.pow_succ]; omega, .join (by omega) (by omega) (hmono b3) (hmono c3)⟩
theorem wk_short {n : Int} {es : List Arc} (hn : n ≤ 12) (hA : InR n es) {u v : Int} {k : Nat} (h : wk es k u v = true) : ∃ k', k' ≤ k ∧ k' ≤ 4096 ∧ wk es k' u v = true := by
  have hA2 : InR ((12 : Nat) : Int) es := fun a ha => by have := hA a ha; omega
  obtain ⟨k', h1, h2, h3⟩ := (Wm.of_wk hA2 h).short
  exact ⟨k', h1, h2, h3.wk⟩
def wlim : Nat := 4097
theorem wlim_eq : wlim = 4097 := rfl
def dist (es : List Arc) (u v : Int) : Int := match (List.range wlim).find? (fun k => wk es k u v) with | some k => (k : Int) | none => 1099511627776
theorem find_range (p : Nat → Bool) (n : Nat) : (∃ k, (List.range n).find? p = some k ∧ k < n ∧ p k = true ∧ ∀ j, j < k → p j = false) ∨ ((List.range n).find? p = none ∧ ∀ j, j < n → p j = false) := by
  induction n with
  | zero => exact .inr ⟨rfl, fun j hj => by omega⟩
  | succ n ih =>
    rw [List.range_succ, List.find?_append]
    rcases ih with ⟨k, e, h1, h2, h3⟩ | ⟨e, h1⟩
    · exact .inl ⟨k, by rw [e]; rfl, by omega, h2, h3⟩
    · rw [e, Option.none_or, List.find?_singleton]
      by_cases hp : p n = true
      · exact .inl ⟨n, by rw [if_pos hp], by omega, hp, h1⟩
      · refine .inr ⟨by rw [if_neg hp], fun j hj => ?_⟩
        rcases Nat.lt_succ_iff_lt_or_eq.1 hj with h | h
        · exact h1 j h
        · subst h; simpa using hp
theorem dist_cases {n : Int} {es : List Arc} (hn : n ≤ 12) (hA : InR n es) (u v : Int) : (∃ k : Nat, dist es u v = k ∧ k ≤ 4096 ∧ wk es k u v = true ∧ ∀ j, wk es j u v = true → k ≤ j) ∨ (dist es u v = 1099511627776 ∧ ∀ j, wk es j u v = false) := by
  have hw := wlim_eq
  unfold dist
  rcases find_range (fun k => wk es k u v) wlim with ⟨k, e, h1, h2, h3⟩ | ⟨e, h1⟩
  · rw [e]
    refine .inl ⟨k, rfl, by omega, h2, fun j hj => ?_⟩
    rcases Nat.lt_or_ge j k with hlt | hge
    · have := h3 j hlt; rw [hj] at this; cases this
    · exact hge
  · rw [e]
    refine .inr ⟨rfl, fun j => ?_⟩
    cases hj : wk es j u v
    · rfl
    · obtain ⟨k, _, h2, h3⟩ := wk_short hn hA hj
      have := h1 k (by omega)
      rw [h3] at this; cases this
def waysOf (n : Int) (es : List Arc) : List (List Int) := (List.range n.toNat).map fun (u : Nat) => (List.range n.toNat).map fun (v : Nat) => dist es (u : Int) (v : Int)
def at2 (D : List (List Int)) (u v : Nat) : Int := (D.getD u []).getD v 0
def put2 (D : List (List Int)) (f t : Nat) (x : Int) : List (List Int) := D.set f ((D.getD f []).set t x)
structure Sq (n : Nat) (D : List (List Int)) : Prop where
  len : D.length = n
  row : ∀ r, r < n → (D.getD r []).length = n
theorem at_put {n : Nat} {D : List (List Int)} (h : Sq n D) {f t : Nat} (hf : f < n) (ht : t < n) (x : Int) (u v : Nat) : at2 (put2 D f t x) u v = if u = f ∧ v = t then x else at2 D u v := by
  unfold at2 put2
  by_cases hu : u = f
  · subst hu
    rw [getD_set_self _ _ _ _ (by rw [h.len]; exact hf)]
    by_cases hv : v = t
    · subst hv
      rw [if_pos ⟨rfl, rfl⟩, getD_set_self _ _ _ _ (by rw [h.row _ hf]; exact ht)]
    · rw [if_neg (fun e => hv e.2), getD_set_ne _ _ _ _ _ (Ne.symm hv)]
  · rw [if_neg (fun e => hu e.1), getD_set_ne _ _ _ _ _ (Ne.symm hu)]
theorem Sq.put {n : Nat} {D : List (List Int)} (h : Sq n D) {f t : Nat} {x : Int} : Sq n (put2 D f t x) := by
  refine ⟨by unfold put2; rw [List.length_set]; exact h.len, fun r hr => ?_⟩
  unfold put2
  by_cases hu : r = f
  · subst hu
    rw [getD_set_self _ _ _ _ (by rw [h.len]; exact hr), List.length_set]; exact h.row r hr
  · rw [getD_set_ne _ _ _ _ _ (Ne.symm hu)]; exact h.row r hr
def Sound (n : Nat) (es : List Arc) (D : List (List Int)) : Prop := ∀ u v : Nat, u < n → v < n → 0 ≤ at2 D u v ∧ at2 D u v ≤ 1099511627776 ∧ (at2 D u v = 1099511627776 ∨ ∃ k : Nat, at2 D u v = k ∧ wk es k u v = true)
structure Arcs1 (n : Nat) (es : List Arc) (D : List (List Int)) (k : Nat) : Prop where
  sq : Sq n D
  sound : Sound n es D
  self : ∀ u, u < n → at2 D u u ≤ 0
  arcs : ∀ j, j < k → at2 D (es.getD j default).src.toNat (es.getD j default).dst.toNat ≤ 1
def Comp (n : Nat) (es : List Arc) (D : List (List Int)) (m : Nat) : Prop := ∀ (u v : Nat) (k : Nat), u < n → v < n → Wm es m u v k → at2 D u v ≤ k
def Done (n : Nat) (es : List Arc) (D : List (List Int)) (m i k : Nat) : Prop := ∀ (u v a b : Nat), u < n → v < n → (u < i ∨ (u = i ∧ v < k)) → Wm es m u m a → Wm es m m v b → at2 D u v ≤ (a : Int) + b
structure Ways1 (n : Nat) (es : List Arc) (D : List (List Int)) (m i k : Nat) : Prop where
  sq : Sq n D
  sound : Sound n es D
  comp : Comp n es D m
  done : Done n es D m i k
theorem waysOf_len (n : Int) (es : List Arc) : (waysOf n es).length = n.toNat := by simp [waysOf]
theorem waysOf_row {n : Int} {es : List Arc} {u : Nat} (hu : (u : Int) < n) : (waysOf n es).getD u [] = (List.range n.toNat).map fun (v : Nat) => dist es (u : Int) (v : Int) := by
  rw [getD_lt _ _ _ (by rw [waysOf_len]; omega)]
  simp [waysOf]
theorem waysOf_at {n : Int} {es : List Arc} {u v : Nat} (hu : (u : Int) < n) (hv : (v : Int) < n) : ((waysOf n es).getD u []).getD v 0 = dist es u v := by
  rw [waysOf_row hu, getD_lt _ _ _ (by simp; omega)]
  simp
theorem InR.both {n : Int} {es : List Arc} (h : InR n es) : InR n (bothA es) := fun a ha => by
  unfold bothA at ha
  rw [List.mem_append, List.mem_map] at ha
  rcases ha with ha | ⟨b, hb, rfl⟩
  · exact h a ha
  · obtain ⟨h1, h2, h3, h4⟩ := h b hb
    exact ⟨h3, h4, h1, h2⟩
theorem GOk.inR {n : Int} {es : List Arc} {k : Int} (h : GOk n es k) : InR n es := fun a ha => by
  obtain ⟨h1, h2, h3, h4, _⟩ := h.arc a ha
  exact ⟨h1, h2, h3, h4⟩
def finB (x : Int) : Bool := decide (x < 1099511627776)
def joinedOf (n : Int) (es : List Arc) : List Int := (List.range n.toNat).map fun u => idxOf finB ((waysOf n (bothA es)).getD u [])
end Go.Ab
namespace Go.Ab
theorem wk_snoc {es : List Arc} : ∀ {k : Nat} {u v : Int}, wk es (k + 1) u v = true → ∃ a ∈ es, wk es k u a.src = true ∧ a.dst = v
  | 0, u, v, h => by
    obtain ⟨a, ha, e, h1⟩ := wk_succ.1 h
    rw [wk_zero] at h1
    exact ⟨a, ha, wk_zero.2 e.symm, h1⟩
  | k + 1, u, v, h => by
    obtain ⟨a, ha, e, h1⟩ := wk_succ.1 h
    obtain ⟨b, hb, h2, h3⟩ := wk_snoc h1
    exact ⟨b, hb, wk_succ.2 ⟨a, ha, e, h2⟩, h3⟩
theorem mem_both {es : List Arc} {a : Arc} : a ∈ bothA es ↔ a ∈ es ∨ ∃ b ∈ es, a = backA b := by
  unfold bothA
  rw [List.mem_append, List.mem_map]
  constructor
  · rintro (h | ⟨b, hb, rfl⟩)
    · exact .inl h
    · exact .inr ⟨b, hb, rfl⟩
  · rintro (h | ⟨b, hb, rfl⟩)
    · exact .inl h
    · exact .inr ⟨b, hb, rfl⟩
theorem back_both {es : List Arc} {a : Arc} (h : a ∈ bothA es) : backA a ∈ bothA es := by
  rcases mem_both.1 h with h | ⟨b, hb, rfl⟩
  · exact mem_both.2 (.inr ⟨a, h, rfl⟩)
  · exact mem_both.2 (.inl (by unfold backA; exact hb))
theorem wk_rev {es : List Arc} : ∀ {k : Nat} {u v : Int}, wk (bothA es) k u v = true → wk (bothA es) k v u = true
  | 0, u, v, h => by rw [wk_zero] at h ⊢; exact h.symm
  | k + 1, u, v, h => by
    obtain ⟨a, ha, h1, h2⟩ := wk_snoc h
    exact wk_succ.2 ⟨backA a, back_both ha, h2, wk_rev h1⟩
def within (es : List Arc) (k : Nat) (u : Int) (v : Nat) : Bool := (List.range (k + 1)).any fun j => wk es j u v
theorem wk_dst {n : Int} {es : List Arc} (hA : InR n es) {u v : Int} (h0 : 0 ≤ u) (h1 : u < n) : ∀ {k : Nat}, wk es k u v = true → 0 ≤ v ∧ v < n
  | 0, h => by rw [wk_zero] at h; subst h; exact ⟨h0, h1⟩
  | k + 1, h => by
    obtain ⟨a, ha, _, e⟩ := wk_snoc h
    obtain ⟨_, _, h3, h4⟩ := hA a ha
    rw [← e]; exact ⟨h3, h4⟩
structure Lab (n : Int) (es : List Arc) (o : List Int) : Prop where
  len : o.length = n.toNat
  at_ : ∀ v : Nat, v < n.toNat → 0 ≤ o.getD v 0 ∧ o.getD v 0 < n ∧ ∃ k, wk (bothA es) k v (o.getD v 0) = true
structure Round (es : List Arc) (o0 o : List Int) (i : Nat) : Prop where
  le : ∀ v, o.getD v 0 ≤ o0.getD v 0
  arcs : ∀ j, j < i → o.getD (es.getD j default).src.toNat 0 ≤ o0.getD (es.getD j default).dst.toNat 0 ∧ o.getD (es.getD j default).dst.toNat 0 ≤ o0.getD (es.getD j default).src.toNat 0
theorem finB_dist {n : Int} {es : List Arc} (hn : n ≤ 12) (hA : InR n es) {u v : Int} : finB (dist es u v) = true ↔ ∃ k, wk es k u v = true := by
  unfold finB
  rw [decide_eq_true_iff]
  rcases dist_cases hn hA u v with ⟨k, e, h1, h2, _⟩ | ⟨e, h1⟩
  · rw [e]; exact ⟨fun _ => ⟨k, h2⟩, fun _ => by omega⟩
  · rw [e]
    constructor
    · intro h; omega
    · rintro ⟨k, hk⟩; rw [h1 k] at hk; cases hk
theorem row_len {n : Int} {es : List Arc} {u : Nat} (hu : (u : Int) < n) : ((waysOf n es).getD u []).length = n.toNat := by rw [waysOf_row hu]; simp
end Go.Ab
namespace Go.Ab
structure Bfs2 (n s : Int) (es : List Arc) (fr by_ todo : List Int) : Prop where
  len1 : fr.length = n.toNat
  len2 : by_.length = n.toNat
  src : fr.getD s.toNat 0 = 0
  at_ : ∀ v : Nat, v < n.toNat → fr.getD v 0 = -1 ∨ (0 ≤ fr.getD v 0 ∧ wk es (fr.getD v 0).toNat s v = true ∧ (fr.getD v 0 = 0 → (v : Int) = s) ∧
    (0 < fr.getD v 0 → 0 ≤ by_.getD v 0 ∧ by_.getD v 0 < es.length ∧ (es.getD (by_.getD v 0).toNat default).dst = v ∧ fr.getD (es.getD (by_.getD v 0).toNat default).src.toNat 0 = fr.getD v 0 - 1))
  queue : ∀ u ∈ todo, 0 ≤ u ∧ u < n ∧ 0 ≤ fr.getD u.toNat 0
  sorted : todo.Pairwise (fun a b => fr.getD a.toNat 0 ≤ fr.getD b.toNat 0)
  front : 0 < todo.length → ∀ v : Nat, v < n.toNat → fr.getD v 0 ≤ fr.getD (todo.getD 0 0).toNat 0 + 1
  closed : ∀ v : Nat, v < n.toNat → 0 ≤ fr.getD v 0 → (v : Int) ∉ todo → ∀ a ∈ es, a.src = v → 0 ≤ fr.getD a.dst.toNat 0 ∧ fr.getD a.dst.toNat 0 ≤ fr.getD v 0 + 1
structure Seen (es : List Arc) (fr : List Int) (at_ : Int) (i : Nat) : Prop where
  arcs : ∀ j, j < i → (es.getD j default).src = at_ → 0 ≤ fr.getD (es.getD j default).dst.toNat 0 ∧ fr.getD (es.getD j default).dst.toNat 0 ≤ fr.getD at_.toNat 0 + 1
def isWay (es : List Arc) : List Int → Int → Int → Bool
  | [], s, t => decide (s = t)
  | k :: r, s, t => decide (0 ≤ k ∧ k < es.length ∧ (es.getD k.toNat default).src = s) && isWay es r (es.getD k.toNat default).dst t
structure FarOk (n : Int) (es : List Arc) (s : Int) : Prop where
  ok : GOk n es (-10000)
  s0 : 0 ≤ s
  s1 : s < n
end Go.Ab
