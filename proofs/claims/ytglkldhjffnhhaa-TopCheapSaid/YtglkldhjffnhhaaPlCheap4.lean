/- Of what a flow costs: is there a round way that costs less than nothing, node by node: the plain laws. -/
import Derived.Test.YtglkldhjffnhhaaPlCheap3
namespace Go.Ab
def Cov (es : List Arc) (cost f : List Int) (D : List (List Int)) (j : Nat) (b : Bool) : Prop := ∀ u v : Int, Res es f j b u v → at2 D u.toNat v.toNat ≤ stepC cost j b
/-- The table by the first k arcs. -/
structure FI (n : Nat) (es : List Arc) (cost f : List Int) (D : List (List Int)) (k : Nat) : Prop where
  sq : Sq n D
  bd : ∀ u v, u < n → v < n → -1000 ≤ at2 D u v ∧ at2 D u v ≤ 1099511627776
  snd : ∀ u v, u < n → v < n → at2 D u v = 1099511627776 ∨ ∃ c, RS es cost f u v c ∧ c ≤ at2 D u v
  cov : ∀ j, j < k → ∀ b, Cov es cost f D j b
section
variable {n : Nat} {es : List Arc} {cost f : List Int} {D : List (List Int)}
theorem FI.start (hl : D.length = n) (hr : ∀ r, r < n → D.getD r [] = List.replicate n 1099511627776) : FI n es cost f D 0 := by
  have hat : ∀ u v, u < n → v < n → at2 D u v = 1099511627776 := fun u v hu hv => by
    unfold at2
    rw [hr u hu, getD_lt _ 0 v (by simpa using hv), List.getElem_replicate]
  refine ⟨⟨hl, fun r h => by rw [hr r h]; simp⟩, fun u v hu hv => by rw [hat u v hu hv]; decide, fun u v hu hv => .inl (hat u v hu hv), fun j hj => by omega⟩
theorem FI.put {k : Nat} (h : FI n es cost f D k) {u v : Nat} (hu : u < n) (hv : v < n) {c : Int} (hr : RS es cost f u v c) (hc : -1000 ≤ c ∧ c ≤ 1000) : FI n es cost f (put2 D u v (min (at2 D u v) c)) k ∧ (∀ x y, at2 (put2 D u v (min (at2 D u v) c)) x y ≤ at2 D x y) ∧ at2 (put2 D u v (min (at2 D u v) c)) u v ≤ c := by
  have hp := at_put h.sq hu hv (min (at2 D u v) c)
  have hle : ∀ x y, at2 (put2 D u v (min (at2 D u v) c)) x y ≤ at2 D x y := fun x y => by
    rw [hp]; split
    · rename_i e; rw [e.1, e.2]; omega
    · exact Int.le_refl _
  refine ⟨⟨h.sq.put, fun x y hx hy => ?_, fun x y hx hy => ?_, fun j hj b a b' hres => Int.le_trans (hle _ _) (h.cov j hj b a b' hres)⟩, hle, by rw [hp, if_pos ⟨rfl, rfl⟩]; omega⟩
  · rw [hp]
    have h1 := h.bd x y hx hy
    have h2 := h.bd u v hu hv
    split
    · omega
    · exact h1
  · rw [hp]
    split
    · rename_i e
      rw [e.1, e.2]
      right
      rcases Int.lt_or_le c (at2 D u v) with q | q
      · exact ⟨c, hr, by omega⟩
      · rw [Int.min_eq_left q]
        rcases h.snd u v hu hv with g | ⟨c', g1, g2⟩
        · exact ⟨c, hr, by omega⟩
        · exact ⟨c', g1, g2⟩
    · exact h.snd x y hx hy
def fiF (es : List Arc) (cost f : List Int) (D : List (List Int)) (k : Nat) : List (List Int) := if f.getD k 0 < (es.getD k default).cap then put2 D (es.getD k default).src.toNat (es.getD k default).dst.toNat (min (at2 D (es.getD k default).src.toNat (es.getD k default).dst.toNat) (cost.getD k 0)) else D
def fiB (es : List Arc) (cost f : List Int) (D : List (List Int)) (k : Nat) : List (List Int) := if 0 < f.getD k 0 then put2 D (es.getD k default).dst.toNat (es.getD k default).src.toNat (min (at2 D (es.getD k default).dst.toNat (es.getD k default).src.toNat) (-cost.getD k 0)) else D
theorem FI.step {s t : Int} {k : Nat} (hn : NOk (n : Int) s t es) (hc : CostOk es cost) (h : FI n es cost f D k) (hk : k < es.length) : FI n es cost f (fiF es cost f D k) k ∧ FI n es cost f (fiB es cost f (fiF es cost f D k) k) (k + 1) := by
  obtain ⟨a1, a2, a3, a4, _, _⟩ := hn.at_ hk
  have hck := hc.2.2 k hk
  have e1 : (((es.getD k default).src.toNat : Nat) : Int) = (es.getD k default).src := by omega
  have e2 : (((es.getD k default).dst.toNat : Nat) : Int) = (es.getD k default).dst := by omega
  have hF : FI n es cost f (fiF es cost f D k) k ∧ Cov es cost f (fiF es cost f D k) k false := by
    unfold fiF
    by_cases q : f.getD k 0 < (es.getD k default).cap
    · rw [if_pos q]
      have hr : RS es cost f ((es.getD k default).src.toNat : Nat) ((es.getD k default).dst.toNat : Nat) (cost.getD k 0) := by
        rw [e1, e2]
        exact ⟨(k : Int), false, ⟨by omega, by omega, by simp only [Bool.false_eq_true, if_false, Int.toNat_natCast]; exact ⟨trivial, trivial, q⟩⟩, rfl⟩
      obtain ⟨g1, g2, g3⟩ := h.put (by omega) (by omega) hr (by omega)
      refine ⟨g1, fun u v hres => ?_⟩
      obtain ⟨_, _, hres⟩ := hres
      simp only [Bool.false_eq_true, if_false, Int.toNat_natCast] at hres
      rw [← hres.1, ← hres.2.1]
      exact g3
    · rw [if_neg q]
      refine ⟨h, fun u v hres => ?_⟩
      obtain ⟨_, _, hres⟩ := hres
      simp only [Bool.false_eq_true, if_false, Int.toNat_natCast] at hres
      exact absurd hres.2.2 q
  refine ⟨hF.1, ?_⟩
  generalize fiF es cost f D k = D1 at hF
  obtain ⟨h1, h2⟩ := hF
  unfold fiB
  by_cases q : 0 < f.getD k 0
  · rw [if_pos q]
    have hr : RS es cost f ((es.getD k default).dst.toNat : Nat) ((es.getD k default).src.toNat : Nat) (-cost.getD k 0) := by
      rw [e1, e2]
      exact ⟨(k : Int), true, ⟨by omega, by omega, by simp only [if_true, Int.toNat_natCast]; exact ⟨trivial, trivial, q⟩⟩, rfl⟩
    obtain ⟨g1, g2, g3⟩ := h1.put (by omega) (by omega) hr (by omega)
    refine ⟨g1.sq, g1.bd, g1.snd, fun j hj b => ?_⟩
    rcases Nat.lt_succ_iff_lt_or_eq.1 hj with e | e
    · exact g1.cov j e b
    · subst e
      cases b
      · exact fun u v hres => Int.le_trans (g2 _ _) (h2 u v hres)
      · intro u v hres
        obtain ⟨_, _, hres⟩ := hres
        simp only [if_true, Int.toNat_natCast] at hres
        rw [← hres.1, ← hres.2.1]
        exact g3
  · rw [if_neg q]
    refine ⟨h1.sq, h1.bd, h1.snd, fun j hj b => ?_⟩
    rcases Nat.lt_succ_iff_lt_or_eq.1 hj with e | e
    · exact h1.cov j e b
    · subst e
      cases b
      · exact h2
      · intro u v hres
        obtain ⟨_, _, hres⟩ := hres
        simp only [if_true, Int.toNat_natCast] at hres
        exact absurd hres.2.2 q
end
/-- The table, at (m, i, k). -/
structure FW (n : Nat) (R : Int → Int → Int → Prop) (D : List (List Int)) (m i k c : Nat) : Prop where
  sq : Sq n D
  bd : ∀ u v, u < n → v < n → -1099511627776 ≤ at2 D u v ∧ at2 D u v ≤ 1099511627776
  dg : ∀ u, u < n → (u < i ∨ (1 ≤ m ∧ i < u) ∨ (1 ≤ m ∧ k = 0)) → 0 ≤ at2 D u u
  lp : LoopOk R m
  cp : ∀ (u v : Nat) (w : Int), u < n → v < n → Wc R m u v w → at2 D u v ≤ w
  dn : ∀ (u v : Nat) (a b : Int), u < n → v < n → (u < i ∨ (u = i ∧ v < k)) → Wc R m u m a → Wc R m m v b → at2 D u v ≤ a + b
  sd : ¬ NegC n R → ∀ u v : Nat, u < n → v < n → (∃ w, Wc R n u v w ∧ w ≤ at2 D u v) ∨ 1099511627776 - 4096000 * (c : Int) ≤ at2 D u v
  cb : c ≤ 144 * m + 12 * i + k
def RIn (n : Nat) (R : Int → Int → Int → Prop) : Prop := ∀ u v c, R u v c → 0 ≤ u ∧ u < n ∧ 0 ≤ v ∧ v < n ∧ -1000 ≤ c ∧ c ≤ 1000
section
variable {n : Nat} {R : Int → Int → Int → Prop} {D : List (List Int)} {m i k c : Nat}
theorem low12 {m : Nat} (h : m ≤ 12) : ((2 ^ m : Nat) : Int) ≤ 4096 := by
  have : 2 ^ m ≤ 2 ^ 12 := Nat.pow_le_pow_right (by decide) h
  omega
theorem RIn.low (hR : RIn n R) (hl : LoopOk R m) (hm : m ≤ 12) {u v w : Int} (h : Wc R m u v w) : -4096000 ≤ w := by
  have h1 := Wc.low (fun u v c h => (hR u v c h).2.2.2.2.1) hl h (fun u v c h => ⟨(hR u v c h).1, (hR u v c h).2.2.1⟩)
  have := low12 hm
  omega
theorem loops_of (hN : ¬ NegC n R) : LoopOk R n := fun k hk c h => by
  rcases Int.lt_or_le c 0 with q | q
  · exact absurd ⟨(k : Int), c, h.mono (by omega), q⟩ hN
  · exact q
theorem FW.step (hR : RIn n R) (h12 : n ≤ 12) (h : FW n R D m i k c) (hm : m < n) (hi : i < n) (hk : k < n) : FW n R (put2 D i k (max (-1099511627776) (min (at2 D i k) (at2 D i m + at2 D m k)))) m i (k + 1) (c + 1) := by
  have hp := at_put h.sq hi hk (max (-1099511627776) (min (at2 D i k) (at2 D i m + at2 D m k)))
  have b1 := h.bd i k hi hk
  have b2 := h.bd i m hi hm
  have b3 := h.bd m k hm hk
  have hle : ∀ x y, at2 (put2 D i k (max (-1099511627776) (min (at2 D i k) (at2 D i m + at2 D m k)))) x y ≤ at2 D x y := fun x y => by
    rw [hp]; split
    · rename_i e; rw [e.1, e.2]; omega
    · exact Int.le_refl _
  refine ⟨h.sq.put, fun x y hx hy => ?_, fun u hu q => ?_, h.lp, fun u v w hu hv hw => Int.le_trans (hle _ _) (h.cp u v w hu hv hw), fun u v a b hu hv q ha hb => ?_, fun hN u v hu hv => ?_, by have := h.cb; omega⟩
  · rw [hp]
    have := h.bd x y hx hy
    split <;> omega
  · rw [hp, if_neg (by omega)]
    exact h.dg u hu (by omega)
  · by_cases e : u = i ∧ v = k
    · rw [hp, if_pos e]
      rw [e.1] at ha
      rw [e.2] at hb
      have g1 := h.cp i m a hi hm ha
      have g2 := h.cp m k b hm hk hb
      have g3 := hR.low h.lp (by omega) ha
      have g4 := hR.low h.lp (by omega) hb
      omega
    · exact Int.le_trans (hle _ _) (h.dn u v a b hu hv (by omega) ha hb)
  · have hc := h.cb
    rw [hp]
    split
    · rename_i e
      rw [e.1, e.2]
      have low : ∀ {x y w : Int}, Wc R n x y w → -4096000 ≤ w := fun hw => hR.low (loops_of hN) h12 hw
      rcases Int.lt_or_le (at2 D i m + at2 D m k) (at2 D i k) with q | q
      · rcases h.sd hN i m hi hm with ⟨w1, p1, p2⟩ | p <;> rcases h.sd hN m k hm hk with ⟨w2, q1, q2⟩ | p'
        · exact .inl ⟨w1 + w2, p1.join (by omega) q1, by omega⟩
        · have := low p1; right; omega
        · have := low q1; right; omega
        · right; omega
      · rcases h.sd hN i k hi hk with ⟨w, p1, p2⟩ | p
        · exact .inl ⟨w, p1, by omega⟩
        · right; omega
    · rcases h.sd hN u v hu hv with p | p
      · exact .inl p
      · right; omega
theorem FW.neg (h : FW n R D m i k c) (h12 : n ≤ 12) (hm : m < n) (hi : i < n) (hk : k ≤ n) (hd : at2 D i i < 0) : NegC n R := by
  refine Classical.byContradiction fun hN => ?_
  have hc := h.cb
  rcases h.sd hN i i hi hi with ⟨w, p1, p2⟩ | p
  · exact hN ⟨i, w, p1, by omega⟩
  · omega
theorem FW.row (h : FW n R D m i k c) (h12 : n ≤ 12) (hk : k = n) (hd : 0 ≤ at2 D i i) : FW n R D m (i + 1) 0 c := by
  refine ⟨h.sq, h.bd, fun u hu q => ?_, h.lp, h.cp, fun u v a b hu hv q => ?_, h.sd, by have := h.cb; omega⟩
  · by_cases e : u = i
    · subst e; exact hd
    · exact h.dg u hu (by omega)
  · exact h.dn u v a b hu hv (by omega)
theorem FW.all (h : FW n R D m i 0 c) (h12 : n ≤ 12) (hm : m < n) (hi : i = n) : FW n R D (m + 1) 0 0 c := by
  have hl : ∀ c, Wc R (m : Int) m m c → 0 ≤ c := fun c hw => by
    have h1 := h.cp m m c hm hm hw
    have h2 := h.dg m hm (by omega)
    omega
  refine ⟨h.sq, h.bd, fun u hu _ => h.dg u hu (by omega), fun k hk c hw => ?_, fun u v w hu hv hw => ?_, fun u v a b hu hv q => by omega, h.sd, by have := h.cb; omega⟩
  · rcases Nat.lt_succ_iff_lt_or_eq.1 hk with q | q
    · exact h.lp k q c hw
    · subst q; exact hl c hw
  · rcases Wc.split (m := (m : Int)) hl hw with ⟨w', h1, h2⟩ | ⟨a, b, h1, h2, h3⟩
    · exact Int.le_trans (h.cp u v w' hu hv h2) h1
    · exact Int.le_trans (h.dn u v a b hu hv (by omega) h2 h3) h1
theorem Wc.ends {m u v w : Int} (hR : RIn n R) (h : Wc R m u v w) : 0 ≤ u ∧ u < n ∧ 0 ≤ v ∧ v < n := by
  induction h with
  | one h => obtain ⟨h1, h2, h3, h4, _⟩ := hR _ _ _ h; exact ⟨h1, h2, h3, h4⟩
  | cons h _ _ ih => obtain ⟨h1, h2, _⟩ := hR _ _ _ h; exact ⟨h1, h2, ih.2.2⟩
theorem FW.none (hR : RIn n R) (h : FW n R D m 0 0 c) (hm : m = n) (hn : 1 ≤ n) : ¬ NegC n R := by
  rintro ⟨u, w, h1, h2⟩
  subst hm
  obtain ⟨u0, u1, _, _⟩ := h1.ends hR
  have e : ((u.toNat : Nat) : Int) = u := by omega
  have g1 := h.cp u.toNat u.toNat w (by omega) (by omega) (by rw [e]; exact h1)
  have g2 := h.dg u.toNat (by omega) (.inr (.inr ⟨hn, rfl⟩))
  omega
end
/-! ### The errors -/
def offCost (x : Int) : Bool := decide (x < 0) || decide (1000 < x)
def costErr (n s t : Int) (es : List Arc) (cost : List Int) : Int := if netErr n s t es ≠ 0 then netErr n s t es else if 30 < es.length then 2 else if cost.length ≠ es.length then 3 else if cost.any offCost = true then 1 else 0
theorem costErr_ok {n s t : Int} {es : List Arc} {cost : List Int} (h : costErr n s t es cost = 0) : NOk n s t es ∧ CostOk es cost := by
  unfold costErr at h
  split at h
  · omega
  split at h
  · cases h
  split at h
  · cases h
  split at h
  · cases h
  rename_i h1 h2 h3 h4
  refine ⟨netErr_ok (by omega), by omega, by omega, fun k hk => ?_⟩
  have h5 : cost.any offCost = false := by simpa using h4
  have := any_no h5 _ (getD_mem (d := 0) (show k < cost.length by omega))
  unfold offCost at this
  rw [Bool.or_eq_false_iff, decide_eq_false_iff_not, decide_eq_false_iff_not] at this
  omega
def costErr2 (n s t : Int) (es : List Arc) (cost f : List Int) : Int := if costErr n s t es cost ≠ 0 then costErr n s t es cost else flowErr n s t es f
/-- What 'Of' answers. -/
def OfOk (n s t : Int) (es : List Arc) (cost : List Int) (amount : Int) (g : List Int) (c e : Int) : Prop :=
  (costErr n s t es cost ≠ 0 ∧ e = costErr n s t es cost ∧ g = [] ∧ c = 0) ∨ (costErr n s t es cost = 0 ∧ amount < 0 ∧ e = 1 ∧ g = [] ∧ c = 0) ∨
  (costErr n s t es cost = 0 ∧ 0 ≤ amount ∧ (parted n s t es).1 < amount ∧ e = 5 ∧ g = [] ∧ c = 0) ∨
  (costErr n s t es cost = 0 ∧ 0 ≤ amount ∧ e = 0 ∧ Ssp n s t es cost g amount c)
end Go.Ab
