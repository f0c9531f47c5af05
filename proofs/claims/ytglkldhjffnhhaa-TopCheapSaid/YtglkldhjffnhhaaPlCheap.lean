/- Of what a flow costs, and of what is left of a net by it: the plain laws. -/
import Derived.Test.YtglkldhjffnhhaaPlShort2
import Derived.Test.YtglkldhjffnhhaaPlA
namespace Go.Ab
/-! ### Ways in a relation with lengths, by the nodes between -/
inductive Wc (R : Int → Int → Int → Prop) (m : Int) : Int → Int → Int → Prop
  | one {u v c : Int} : R u v c → Wc R m u v c
  | cons {u x v c w : Int} : R u x c → x < m → Wc R m x v w → Wc R m u v (c + w)
section
variable {R : Int → Int → Int → Prop}
theorem Wc.join {m u x v a b : Int} (h : Wc R m u x a) (hx : x < m) (h2 : Wc R m x v b) : Wc R m u v (a + b) := by
  induction h with
  | one h => exact .cons h hx h2
  | cons h hy _ ih =>
    rw [Int.add_assoc]
    exact .cons h hy (ih hx h2)
theorem Wc.mono {m k u v w : Int} (h : Wc R m u v w) (hk : m ≤ k) : Wc R k u v w := by
  induction h with
  | one h => exact .one h
  | cons h hy _ ih => exact .cons h (by omega) ih
theorem Wc.split {m u v w : Int} (hl : ∀ c, Wc R m m m c → 0 ≤ c) (h : Wc R (m + 1) u v w) : (∃ w', w' ≤ w ∧ Wc R m u v w') ∨ ∃ a b, a + b ≤ w ∧ Wc R m u m a ∧ Wc R m m v b := by
  induction h with
  | one h => exact .inl ⟨_, Int.le_refl _, .one h⟩
  | @cons u x v c w h hx _ ih =>
    by_cases e : x = m
    · subst e
      rcases ih with ⟨w', h1, h2⟩ | ⟨a, b, h1, h2, h3⟩
      · exact .inr ⟨c, w', by omega, .one h, h2⟩
      · have := hl a h2
        exact .inr ⟨c, b, by omega, .one h, h3⟩
    · rcases ih with ⟨w', h1, h2⟩ | ⟨a, b, h1, h2, h3⟩
      · exact .inl ⟨c + w', by omega, .cons h (by omega) h2⟩
      · exact .inr ⟨c + a, b, by omega, .cons h (by omega) h2, h3⟩
/-- No round way over m with nodes below m alone is of a length below 0, for the first ones. -/
def LoopOk (R : Int → Int → Int → Prop) (m : Nat) : Prop := ∀ k : Nat, k < m → ∀ c, Wc R (k : Int) k k c → 0 ≤ c
theorem Wc.low (hc : ∀ u v c, R u v c → -1000 ≤ c) : ∀ {m : Nat} {u v w : Int}, LoopOk R m → Wc R (m : Int) u v w → (∀ u v c, R u v c → 0 ≤ u ∧ 0 ≤ v) → -1000 * (2 ^ m : Nat) ≤ w
  | 0, u, v, w, _, h, h0 => by
    cases h with
    | one h => have := hc _ _ _ h; simp; omega
    | cons h hx _ => have := (h0 _ _ _ h).2; simp at hx; omega
  | m + 1, u, v, w, hl, h, h0 => by
    have hl' : LoopOk R m := fun k hk => hl k (by omega)
    have e : ((2 ^ (m + 1) : Nat) : Int) = 2 * ((2 ^ m : Nat) : Int) := by rw [Nat.pow_succ]; omega
    rcases Wc.split (m := (m : Int)) (hl m (by omega)) h with ⟨w', h1, h2⟩ | ⟨a, b, h1, h2, h3⟩
    · have := Wc.low hc hl' h2 h0
      have : (0 : Int) ≤ ((2 ^ m : Nat) : Int) := Int.natCast_nonneg _
      omega
    · have g1 := Wc.low hc hl' h2 h0
      have g2 := Wc.low hc hl' h3 h0
      omega
end
/-! ### The steps that are left, and what they cost -/
def stepC (cost : List Int) (k : Int) (b : Bool) : Int := if b = true then -cost.getD k.toNat 0 else cost.getD k.toNat 0
def RS (es : List Arc) (cost f : List Int) (u v c : Int) : Prop := ∃ k b, Res es f k b u v ∧ c = stepC cost k b
/-- There is a round way that costs less than nothing. -/
def NegC (n : Int) (R : Int → Int → Int → Prop) : Prop := ∃ u w, Wc R n u u w ∧ w < 0
/-- There are heights. -/
def Pot (R : Int → Int → Int → Prop) : Prop := ∃ h : Int → Int, ∀ u v c, R u v c → h v ≤ h u + c
theorem Pot.way {R : Int → Int → Int → Prop} {h : Int → Int} (hp : ∀ u v c, R u v c → h v ≤ h u + c) {m u v w : Int} (hw : Wc R m u v w) : h v ≤ h u + w := by
  induction hw with
  | one h1 => exact hp _ _ _ h1
  | cons h1 _ _ ih => have := hp _ _ _ h1; omega
theorem Pot.none {n : Int} {R : Int → Int → Int → Prop} (h : Pot R) : ¬ NegC n R := by
  rintro ⟨u, w, h1, h2⟩
  obtain ⟨p, hp⟩ := h
  have := Pot.way hp h1
  omega
/-- A list of arcs that are steps, or lead nowhere. -/
def ArcsOf (R : Int → Int → Int → Prop) (es : List Arc) : Prop := (∀ a ∈ es, R a.src a.dst a.cap ∨ (a.dst = a.src ∧ a.cap = 0)) ∧ ∀ u v c, R u v c → ∃ a ∈ es, a.src = u ∧ a.dst = v ∧ a.cap = c
theorem Wl.wc {R : Int → Int → Int → Prop} {es : List Arc} {n : Int} (hE : ArcsOf R es) (hn : ∀ u v c, R u v c → u < n) {b : Int} : ∀ {Y : List Int} {v w : Int}, Wl es (fun x => x = b) v Y w → (v = b ∧ w = 0) ∨ Wc R n b v w
  | [], v, w, ⟨h1, h2⟩ => .inl ⟨h1, h2⟩
  | u :: Z, v, w, ⟨a, ha, h1, h2, h3⟩ => by
    subst h1 h2
    rcases hE.1 a ha with q | ⟨q1, q2⟩
    · rcases Wl.wc hE hn h3 with ⟨g1, g2⟩ | g
      · right
        rw [g1] at q
        rw [show w = a.cap by omega]
        exact .one q
      · right
        have := g.join (hn _ _ _ q) (.one q)
        rwa [Int.sub_add_cancel] at this
    · rw [q1]
      have h4 := Wl.wc hE hn h3
      rw [q2, Int.sub_zero] at h4
      exact h4
theorem ncyc_of {R : Int → Int → Int → Prop} {es : List Arc} {n : Int} {S : Int → Prop} (hE : ArcsOf R es) (hn : ∀ u v c, R u v c → u < n) (h : ¬ NegC n R) : NCyc es S := by
  intro b M w Z w' _ h1 _
  rcases Wl.wc hE hn h1 with ⟨_, g⟩ | g
  · omega
  · rcases Int.lt_or_le w 0 with q | q
    · exact absurd ⟨b, w, g, q⟩ h
    · exact q
theorem Far.pot {R : Int → Int → Int → Prop} {es : List Arc} {n : Int} {f : List Int} {g : List Bool} (hE : ArcsOf R es) (hin : ∀ u v c, R u v c → 0 ≤ u ∧ u < n) (h : Far n es (fun x => 0 ≤ x ∧ x < n) f g) : Pot R := by
  refine ⟨fun v => f.getD v.toNat 0, fun u v c hr => ?_⟩
  obtain ⟨a, ha, rfl, rfl, rfl⟩ := hE.2 u v c hr
  obtain ⟨u0, u1⟩ := hin _ _ _ hr
  obtain ⟨g1, _⟩ := h.low a.src [] 0 ⟨⟨u0, u1⟩, rfl⟩
  obtain ⟨Y, hY⟩ := h.rx.snd a.src u0 u1 g1
  exact (h.low _ _ _ (Wl.arc ha hY)).2
/-- Heights are told just where no round way costs less than nothing. -/
theorem heights_iff {R : Int → Int → Int → Prop} {es : List Arc} {n : Int} {f : List Int} {e : Int} (hE : ArcsOf R es) (hA : InR n es) (hin : ∀ u v c, R u v c → 0 ≤ u ∧ u < n) (hg : graphErr n es (-10000) = 0) (h : HeightOk n es f e) : (e = 0 ∧ Pot R ∧ f.length = n.toNat) ∨ (e = 6 ∧ NegC n R) := by
  rcases h with ⟨q, _⟩ | ⟨_, q1, _, q2⟩ | ⟨_, q1, g, q2⟩
  · exact absurd hg q
  · right
    refine ⟨q1, Classical.byContradiction fun hN => ?_⟩
    exact q2.cyc hA (fun x hx => hx) (ncyc_of hE (fun u v c hr => (hin u v c hr).2) hN)
  · exact .inl ⟨q1, q2.pot hE hin, q2.rx.fl⟩
/-! ### What is left, as a list of arcs -/
def stepF (es : List Arc) (cost f : List Int) (j : Nat) : Arc := if f.getD j 0 < (es.getD j default).cap then ⟨(es.getD j default).src, (es.getD j default).dst, cost.getD j 0⟩ else ⟨(es.getD j default).src, (es.getD j default).src, 0⟩
def stepB (es : List Arc) (cost f : List Int) (j : Nat) : Arc := if 0 < f.getD j 0 then ⟨(es.getD j default).dst, (es.getD j default).src, -cost.getD j 0⟩ else ⟨(es.getD j default).src, (es.getD j default).src, 0⟩
def leftA (es : List Arc) (cost f : List Int) : Nat → List Arc
  | 0 => []
  | m + 1 => leftA es cost f m ++ [stepF es cost f m, stepB es cost f m]
theorem leftA_len (es : List Arc) (cost f : List Int) : ∀ m, (leftA es cost f m).length = 2 * m
  | 0 => rfl
  | m + 1 => by rw [leftA, List.length_append, leftA_len es cost f m]; simp; omega
theorem leftA_at (es : List Arc) (cost f : List Int) : ∀ {m i : Nat}, i < 2 * m → (leftA es cost f m).getD i default = if i % 2 = 0 then stepF es cost f (i / 2) else stepB es cost f (i / 2)
  | 0, i, h => by omega
  | m + 1, i, h => by
    have hl := leftA_len es cost f m
    rw [leftA]
    by_cases q : i < 2 * m
    · rw [getD_app_l _ _ _ _ (by omega)]; exact leftA_at es cost f q
    · obtain ⟨d, rfl⟩ : ∃ d, i = (leftA es cost f m).length + d := ⟨i - 2 * m, by omega⟩
      rw [getD_app_r, hl]
      have hd : d = 0 ∨ d = 1 := by omega
      rcases hd with rfl | rfl
      · rw [if_pos (by omega), show (2 * m + 0) / 2 = m by omega]; rfl
      · rw [if_neg (by omega), show (2 * m + 1) / 2 = m by omega]; rfl
def toP (k : Int) : Int × Bool := (k / 2, decide (k % 2 ≠ 0))
theorem left_res {es : List Arc} {cost f : List Int} {i : Nat} (hi : i < 2 * es.length) (hne : ((leftA es cost f es.length).getD i default).dst ≠ ((leftA es cost f es.length).getD i default).src) :
    Res es f (toP i).1 (toP i).2 ((leftA es cost f es.length).getD i default).src ((leftA es cost f es.length).getD i default).dst ∧ ((leftA es cost f es.length).getD i default).cap = stepC cost (toP i).1 (toP i).2 := by
  rw [leftA_at es cost f hi] at hne ⊢
  unfold toP
  have e1 : ((i : Int) / 2).toNat = i / 2 := by omega
  by_cases h : i % 2 = 0
  · rw [if_pos h] at hne ⊢
    rw [decide_eq_false (by omega)]
    unfold stepF at hne ⊢
    by_cases q : f.getD (i / 2) 0 < (es.getD (i / 2) default).cap
    · rw [if_pos q]
      refine ⟨⟨by omega, by omega, ?_⟩, ?_⟩
      · simp only [e1, Bool.false_eq_true, if_false]; exact ⟨trivial, trivial, q⟩
      · unfold stepC; simp only [e1, Bool.false_eq_true, if_false]
    · rw [if_neg q] at hne; exact absurd rfl hne
  · rw [if_neg h] at hne ⊢
    rw [decide_eq_true (by omega)]
    unfold stepB at hne ⊢
    by_cases q : 0 < f.getD (i / 2) 0
    · rw [if_pos q]
      refine ⟨⟨by omega, by omega, ?_⟩, ?_⟩
      · simp only [e1, if_true]; exact ⟨trivial, trivial, q⟩
      · unfold stepC; simp only [e1, if_true]
    · rw [if_neg q] at hne; exact absurd rfl hne
theorem left_arcs (es : List Arc) (cost f : List Int) : ArcsOf (RS es cost f) (leftA es cost f es.length) := by
  have hl := leftA_len es cost f es.length
  constructor
  · intro a ha
    obtain ⟨i, hi, rfl⟩ := mem_getD default ha
    by_cases q : ((leftA es cost f es.length).getD i default).dst = ((leftA es cost f es.length).getD i default).src
    · rw [leftA_at es cost f (by omega)] at q ⊢
      by_cases h : i % 2 = 0
      · rw [if_pos h] at q ⊢
        unfold stepF at q ⊢
        by_cases c : f.getD (i / 2) 0 < (es.getD (i / 2) default).cap
        · rw [if_pos c] at q ⊢
          left
          refine ⟨((i / 2 : Nat) : Int), false, ⟨by omega, by omega, ?_⟩, ?_⟩
          · simp only [Bool.false_eq_true, if_false, Int.toNat_natCast]; exact ⟨trivial, trivial, c⟩
          · unfold stepC; simp only [Bool.false_eq_true, if_false, Int.toNat_natCast]
        · rw [if_neg c]; exact .inr ⟨rfl, rfl⟩
      · rw [if_neg h] at q ⊢
        unfold stepB at q ⊢
        by_cases c : 0 < f.getD (i / 2) 0
        · rw [if_pos c] at q ⊢
          left
          refine ⟨((i / 2 : Nat) : Int), true, ⟨by omega, by omega, ?_⟩, ?_⟩
          · simp only [if_true, Int.toNat_natCast]; exact ⟨trivial, trivial, c⟩
          · unfold stepC; simp only [if_true, Int.toNat_natCast]
        · rw [if_neg c]; exact .inr ⟨rfl, rfl⟩
    · obtain ⟨h1, h2⟩ := left_res (es := es) (cost := cost) (f := f) (i := i) (by omega) q
      exact .inl ⟨_, _, h1, h2⟩
  · rintro u v c ⟨k, b, ⟨k0, k1, hr⟩, rfl⟩
    cases b
    · simp only [Bool.false_eq_true, if_false] at hr
      refine ⟨stepF es cost f k.toNat, ?_, ?_⟩
      · have := leftA_at es cost f (m := es.length) (i := 2 * k.toNat) (by omega)
        rw [if_pos (by omega), show 2 * k.toNat / 2 = k.toNat by omega] at this
        rw [← this]; exact getD_mem (by omega)
      · unfold stepF stepC; rw [if_pos hr.2.2]; exact ⟨hr.1, hr.2.1, by simp⟩
    · simp only [if_true] at hr
      refine ⟨stepB es cost f k.toNat, ?_, ?_⟩
      · have := leftA_at es cost f (m := es.length) (i := 2 * k.toNat + 1) (by omega)
        rw [if_neg (by omega), show (2 * k.toNat + 1) / 2 = k.toNat by omega] at this
        rw [← this]; exact getD_mem (by omega)
      · unfold stepB stepC; rw [if_pos hr.2.2]; exact ⟨hr.1, hr.2.1, by simp⟩
/-- What a cost may be. -/
def CostOk (es : List Arc) (cost : List Int) : Prop := es.length ≤ 30 ∧ cost.length = es.length ∧ ∀ k, k < es.length → 0 ≤ cost.getD k 0 ∧ cost.getD k 0 ≤ 1000
theorem RS.in_ {n s t : Int} {es : List Arc} {cost f : List Int} {u v c : Int} (hn : NOk n s t es) (hc : CostOk es cost) (h : RS es cost f u v c) : 0 ≤ u ∧ u < n ∧ 0 ≤ v ∧ v < n ∧ -1000 ≤ c ∧ c ≤ 1000 := by
  obtain ⟨k, b, hr, rfl⟩ := h
  have h1 := hr.1
  have h2 := hr.2.1
  obtain ⟨a1, a2, a3, a4, _, _⟩ := hn.at_ (i := k.toNat) (by omega)
  have h3 := hc.2.2 k.toNat (by omega)
  have h4 : -1000 ≤ stepC cost k b ∧ stepC cost k b ≤ 1000 := by unfold stepC; split <;> omega
  rcases hr.ends with ⟨e1, e2⟩ | ⟨e1, e2⟩ <;> rw [e1] at a1 a2 <;> rw [e2] at a3 a4 <;> omega
theorem left_in {n s t : Int} {es : List Arc} {cost f : List Int} (hn : NOk n s t es) (hc : CostOk es cost) : GOk n (leftA es cost f es.length) (-10000) := by
  refine ⟨hn.n1, hn.n2, by rw [leftA_len]; have := hc.1; omega, fun a ha => ?_⟩
  have hl := leftA_len es cost f es.length
  rcases (left_arcs es cost f).1 a ha with q | ⟨q1, q2⟩
  · obtain ⟨h1, h2, h3, h4, h5, h6⟩ := q.in_ hn hc
    exact ⟨h1, h2, h3, h4, by omega, by omega⟩
  · obtain ⟨i, hi, rfl⟩ := mem_getD default ha
    have hat := hn.at_ (i := i / 2) (by omega)
    obtain ⟨a1, a2, a3, a4, _, _⟩ := hat
    have hs : ((leftA es cost f es.length).getD i default).src = (es.getD (i / 2) default).src ∨ ((leftA es cost f es.length).getD i default).src = (es.getD (i / 2) default).dst := by
      rw [leftA_at es cost f (by omega)]
      split
      · unfold stepF; split <;> exact .inl rfl
      · unfold stepB; split
        · exact .inr rfl
        · exact .inl rfl
    unfold ArcOk
    rw [q1, q2]
    rcases hs with e | e <;> rw [e] <;> omega
end Go.Ab
