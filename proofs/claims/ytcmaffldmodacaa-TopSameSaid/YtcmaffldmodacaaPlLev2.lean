/- Of levels: what is sent on, level by level: what is asked, what is answered. -/
import Derived.Test.YtcmaffldmodacaaPlLev
import Derived.Test.YtcmaffldmodacaaPlA
namespace Go.Ab
/-- No way on: where a node is dead, what is left from it to the next level leads to what is dead. -/
def DeadOk (t : Int) (n : Int) (es : List Arc) (B F L : List Int) : Prop := ∀ v w : Int, 0 ≤ v → v < n → 0 ≤ w → w < n → 0 ≤ B.getD v.toNat 0 → L.getD v.toNat 0 = -1 → LeftL es F v w → B.getD w.toNat 0 = B.getD v.toNat 0 + 1 → w ≠ t ∧ L.getD w.toNat 0 = -1
structure SendIn (n s t : Int) (es : List Arc) (B : List Int) (f : Nat) (a most : Int) (L F : List Int) : Prop where
  fin : FIn es F
  lB : B.length = 12
  lL : L.length = 12
  a0 : 0 ≤ a
  a1 : a < n
  lv : L.getD a.toNat 0 = B.getD a.toNat 0 ∧ 0 ≤ B.getD a.toNat 0
  low : ∀ v, v < 12 → L.getD v 0 = B.getD v 0 ∨ L.getD v 0 = -1
  tl : L.getD t.toNat 0 = B.getD t.toNat 0
  top : ∀ v, v < 12 → -1 ≤ B.getD v 0 ∧ B.getD v 0 ≤ 11
  fuel : 12 ≤ (f : Int) + B.getD a.toNat 0
  m0 : 0 ≤ most
  m1 : most ≤ 600000
  dead : DeadOk t n es B F L
structure SendOk (n s t : Int) (es : List Arc) (B : List Int) (a most : Int) (L F : List Int) (x : Int) (L2 F2 : List Int) : Prop where
  fin : FIn es F2
  lL : L2.length = 12
  x0 : 0 ≤ x
  x1 : x ≤ most
  low : ∀ v, v < 12 → L2.getD v 0 = L.getD v 0 ∨ (L2.getD v 0 = -1 ∧ B.getD a.toNat 0 ≤ B.getD v 0)
  tl : L2.getD t.toNat 0 = L.getD t.toNat 0
  dead : DeadOk t n es B F2 L2
  /-- What went, went from here to the target. -/
  gone : ∀ v : Int, 0 ≤ v → v < n → gone es F2 v = gone es F v + ((if v = a then x else 0) - (if v = t then x else 0))
  /-- New room is backward alone. -/
  back : ∀ u v : Int, LeftL es F2 u v → LeftL es F u v ∨ (B.getD u.toNat 0 = B.getD v.toNat 0 + 1 ∧ 0 ≤ B.getD v.toNat 0)
  /-- Arcs that do not go from a level at or behind this one to the next hold what they held. -/
  still : ∀ k, k < es.length → ¬ (0 ≤ B.getD (es.getD k default).src.toNat 0 ∧ 0 ≤ B.getD (es.getD k default).dst.toNat 0 ∧ B.getD a.toNat 0 ≤ B.getD (es.getD k default).src.toNat 0 ∧ B.getD a.toNat 0 ≤ B.getD (es.getD k default).dst.toNat 0) → F2.getD k 0 = F.getD k 0
  none : x = 0 → F2 = F
  shut : x = 0 → 0 < most → a ≠ t ∧ L2.getD a.toNat 0 = -1
  live : x ≠ 0 → L2.getD a.toNat 0 = L.getD a.toNat 0
/-- The target takes it all; and where nothing is asked for, nothing goes. -/
theorem SendIn.stop {n s t : Int} {es : List Arc} {B : List Int} {f : Nat} {a most : Int} {L F : List Int} (h : SendIn n s t es B f a most L F) (hc : a = t ∨ most = 0) : SendOk n s t es B a most L F most L F where
  fin := h.fin
  lL := h.lL
  x0 := h.m0
  x1 := Int.le_refl _
  low := fun v _ => .inl rfl
  tl := rfl
  dead := h.dead
  gone := fun v _ _ => by
    rcases hc with q | q
    · subst q; omega
    · subst q; split <;> split <;> omega
  back := fun _ _ q => .inl q
  still := fun _ _ _ => rfl
  none := fun _ => rfl
  shut := fun h1 h2 => by omega
  live := fun _ => rfl
/-- Behind k arcs. -/
structure SendTo (n s t : Int) (es : List Arc) (B : List Int) (a most : Int) (L F : List Int) (k kb : Nat) (x : Int) (L2 F2 : List Int) : Prop where
  fin : FIn es F2
  lL : L2.length = 12
  x0 : 0 ≤ x
  x1 : x ≤ most
  low : ∀ v, v < 12 → L2.getD v 0 = L.getD v 0 ∨ (L2.getD v 0 = -1 ∧ B.getD a.toNat 0 < B.getD v 0)
  tl : L2.getD t.toNat 0 = L.getD t.toNat 0
  dead : DeadOk t n es B F2 L2
  gone : ∀ v : Int, 0 ≤ v → v < n → gone es F2 v = gone es F v + ((if v = a then x else 0) - (if v = t then x else 0))
  back : ∀ u v : Int, LeftL es F2 u v → LeftL es F u v ∨ (B.getD u.toNat 0 = B.getD v.toNat 0 + 1 ∧ 0 ≤ B.getD v.toNat 0)
  still : ∀ k, k < es.length → ¬ (0 ≤ B.getD (es.getD k default).src.toNat 0 ∧ 0 ≤ B.getD (es.getD k default).dst.toNat 0 ∧ B.getD a.toNat 0 ≤ B.getD (es.getD k default).src.toNat 0 ∧ B.getD a.toNat 0 ≤ B.getD (es.getD k default).dst.toNat 0) → F2.getD k 0 = F.getD k 0
  none : x = 0 → F2 = F
  fwd : x = 0 → ∀ j, j < k → (es.getD j default).src = a → B.getD (es.getD j default).dst.toNat 0 = B.getD a.toNat 0 + 1 → F2.getD j 0 = (es.getD j default).cap ∨ ((es.getD j default).dst ≠ t ∧ L2.getD (es.getD j default).dst.toNat 0 = -1)
  bwd : x = 0 → ∀ j, j < kb → (es.getD j default).dst = a → B.getD (es.getD j default).src.toNat 0 = B.getD a.toNat 0 + 1 → F2.getD j 0 = 0 ∨ ((es.getD j default).src ≠ t ∧ L2.getD (es.getD j default).src.toNat 0 = -1)
theorem SendIn.start {n s t : Int} {es : List Arc} {B : List Int} {f : Nat} {a most : Int} {L F : List Int} (h : SendIn n s t es B f a most L F) : SendTo n s t es B a most L F 0 0 0 L F where
  fin := h.fin
  lL := h.lL
  x0 := Int.le_refl _
  x1 := h.m0
  low := fun v _ => .inl rfl
  tl := rfl
  dead := h.dead
  gone := fun v _ _ => by split <;> split <;> omega
  back := fun _ _ q => .inl q
  still := fun _ _ _ => rfl
  none := fun _ => rfl
  fwd := fun _ j hj => by omega
  bwd := fun _ j hj => by omega
/-- All arcs are looked at, and something went. -/
theorem SendTo.some {n s t : Int} {es : List Arc} {B : List Int} {a most x : Int} {L F L2 F2 : List Int} {k kb : Nat} (h : SendTo n s t es B a most L F k kb x L2 F2) (hx : x ≠ 0) (ha : a.toNat < 12) : SendOk n s t es B a most L F x L2 F2 where
  fin := h.fin
  lL := h.lL
  x0 := h.x0
  x1 := h.x1
  low := fun v hv => (h.low v hv).imp id fun q => ⟨q.1, by omega⟩
  tl := h.tl
  dead := h.dead
  gone := h.gone
  back := h.back
  still := h.still
  none := fun q => absurd q hx
  shut := fun q => absurd q hx
  live := fun _ => (h.low a.toNat ha).resolve_right (fun q => by omega)
/-- All arcs are looked at, and nothing went: the node is dead. -/
theorem SendTo.zero {n s t : Int} {es : List Arc} {B : List Int} {f : Nat} {a most : Int} {L F L2 F2 : List Int} {k kb : Nat} (h : SendTo n s t es B a most L F k kb 0 L2 F2) (hi : SendIn n s t es B f a most L F) (hk : es.length ≤ k) (hkb : es.length ≤ kb) (hn : n ≤ 12) (hne : a ≠ t) (t0 : 0 ≤ t) : SendOk n s t es B a most L F 0 (L2.set a.toNat (-1)) F2 where
  fin := h.fin
  lL := by rw [List.length_set]; exact h.lL
  x0 := h.x0
  x1 := h.x1
  low := fun v hv => by
    by_cases e : a.toNat = v
    · subst e; rw [getD_set_self _ _ _ _ (by rw [h.lL]; exact hv)]; exact .inr ⟨rfl, Int.le_refl _⟩
    · rw [getD_set_ne _ _ _ _ _ e]; exact (h.low v hv).imp id fun q => ⟨q.1, by omega⟩
  tl := by have := hi.a0; rw [getD_set_ne _ _ _ _ _ (by omega)]; exact h.tl
  dead := fun v w v0 v1 w0 w1 hv hd hl hw => by
    have a0 := hi.a0
    have key : w ≠ t ∧ L2.getD w.toNat 0 = -1 := by
      by_cases e : v = a
      · subst e
        obtain ⟨j, hj, ⟨j1, j2, j3⟩ | ⟨j1, j2, j3⟩⟩ := hl
        · have := h.fwd rfl j (by omega) j1 (by rw [j2]; exact hw)
          rw [j2] at this
          exact this.resolve_left (by omega)
        · have := h.bwd rfl j (by omega) j1 (by rw [j2]; exact hw)
          rw [j2] at this
          exact this.resolve_left (by omega)
      · rw [getD_set_ne _ _ _ _ _ (by omega)] at hd
        exact h.dead v w v0 v1 w0 w1 hv hd hl hw
    refine ⟨key.1, ?_⟩
    by_cases e : a.toNat = w.toNat
    · rw [e]; exact getD_set_self _ _ _ _ (by rw [h.lL]; omega)
    · rw [getD_set_ne _ _ _ _ _ e]; exact key.2
  gone := h.gone
  back := h.back
  still := h.still
  none := h.none
  live := fun q => absurd rfl q
  shut := fun _ _ => ⟨hne, getD_set_self _ _ _ _ (by rw [h.lL]; have := hi.a1; have := hi.a0; omega)⟩
/-- What went on along an arc from here. -/
theorem SendTo.along {n s t : Int} {es : List Arc} {B : List Int} {f : Nat} {a most x q x1 : Int} {L F L2 F2 L1 F1 : List Int} {k j jb : Nat} (h : SendTo n s t es B a most L F j jb x L2 F2) (hi : SendIn n s t es B f a most L F) (hk : k < es.length) (hsrc : (es.getD k default).src = a) (hlv : B.getD (es.getD k default).dst.toNat 0 = B.getD a.toNat 0 + 1) (c : SendOk n s t es B (es.getD k default).dst q L2 F2 x1 L1 F1) (hq1 : q ≤ most - x) (hq2 : q ≤ (es.getD k default).cap - F2.getD k 0) :
    SendTo n s t es B a most L F j jb (x + x1) L1 (F1.set k (F1.getD k 0 + x1)) := by
  obtain ⟨w, hw⟩ : ∃ w, (es.getD k default).dst = w := ⟨_, rfl⟩
  rw [hw] at hlv c
  have hB0 := hi.lv.2
  have a0 := hi.a0
  have hlen := c.fin.len
  have hst : F1.getD k 0 = F2.getD k 0 := c.still k hk (fun q => by rw [hsrc] at q; omega)
  have hx0 := h.x0
  have hc0 := c.x0
  have hc1 := c.x1
  have hself : (F1.set k (F1.getD k 0 + x1)).getD k 0 = F1.getD k 0 + x1 := getD_set_self _ _ _ _ (by omega)
  have hoth : ∀ i, i ≠ k → (F1.set k (F1.getD k 0 + x1)).getD i 0 = F1.getD i 0 := fun i hne => getD_set_ne _ _ _ _ _ (Ne.symm hne)
  have hroom : ∀ u v : Int, LeftL es (F1.set k (F1.getD k 0 + x1)) u v → LeftL es F1 u v ∨ (u = w ∧ v = a) := fun u v ⟨i, hi1, hi2⟩ => by
    by_cases e : i = k
    · subst e
      rw [hself] at hi2
      rcases hi2 with ⟨p1, p2, p3⟩ | ⟨p1, p2, p3⟩
      · exact .inl ⟨i, hi1, .inl ⟨p1, p2, by omega⟩⟩
      · exact .inr ⟨by rw [← hw]; exact p1.symm, by rw [← hsrc]; exact p2.symm⟩
    · rw [hoth i e] at hi2; exact .inl ⟨i, hi1, hi2⟩
  have hz : x + x1 = 0 → F1.set k (F1.getD k 0 + x1) = F2 := fun e => by
    have e1 := c.none (by omega)
    rw [e1, show x1 = 0 by omega, Int.add_zero]
    refine List.ext_getElem (by rw [List.length_set]) fun i i1 i2 => ?_
    rw [List.getElem_set]
    split
    · rename_i e2; subst e2; rw [getD_lt _ _ k i2]
    · rfl
  have hlow1 : ∀ v, v < 12 → L1.getD v 0 = L2.getD v 0 ∨ L1.getD v 0 = -1 := fun v hv => (c.low v hv).imp id (·.1)
  have hdst := hi.top
  refine ⟨⟨by rw [List.length_set]; exact hlen, fun i hi1 => ?_⟩, c.lL, by omega, by omega, fun v hv => ?_, by rw [c.tl]; exact h.tl, fun u v u0 u1 v0 v1 hu hd hl hb => ?_, fun v v0 v1 => ?_, fun u v hl => ?_, fun i hi1 hn => ?_, fun e => ?_, fun e i hi1 hs hb => ?_, fun e i hi1 hs hb => ?_⟩
  · by_cases e : i = k
    · subst e; rw [hself]; have := c.fin.at_ i hi1; omega
    · rw [hoth i e]; exact c.fin.at_ i hi1
  · rcases c.low v hv with p | ⟨p1, p2⟩
    · rw [p]; exact h.low v hv
    · exact .inr ⟨p1, by omega⟩
  · rcases hroom u v hl with p | ⟨p1, p2⟩
    · exact c.dead u v u0 u1 v0 v1 hu hd p hb
    · subst p1; subst p2; omega
  · rw [gone_set _ _ hk hlen, hsrc, hw, c.gone v v0 v1, h.gone v v0 v1]
    by_cases e1 : v = a <;> by_cases e2 : v = w <;> by_cases e3 : v = t <;> simp only [e1, e2, e3, if_true, if_false, eq_comm] <;> (repeat' split) <;> omega
  · rcases hroom u v hl with p | ⟨p1, p2⟩
    · rcases c.back u v p with p | p
      · exact h.back u v p
      · exact .inr p
    · subst p1; subst p2; exact .inr ⟨hlv, hB0⟩
  · have hne : i ≠ k := fun e => hn (by subst e; rw [hsrc, hw]; omega)
    rw [hoth i hne, c.still i hi1 (fun p => hn ⟨p.1, p.2.1, by omega, by omega⟩)]
    exact h.still i hi1 hn
  · rw [hz e]; exact h.none (by omega)
  · rw [hz e]
    rcases h.fwd (by omega) i hi1 hs hb with p | ⟨p1, p2⟩
    · exact .inl p
    · refine .inr ⟨p1, ?_⟩
      by_cases hv : (es.getD i default).dst.toNat < 12
      · rcases hlow1 _ hv with r | r
        · rw [r]; exact p2
        · exact r
      · rw [List.getD_eq_getElem?_getD, List.getElem?_eq_none (by rw [h.lL]; omega)] at p2; cases p2
  · rw [hz e]
    rcases h.bwd (by omega) i hi1 hs hb with p | ⟨p1, p2⟩
    · exact .inl p
    · refine .inr ⟨p1, ?_⟩
      by_cases hv : (es.getD i default).src.toNat < 12
      · rcases hlow1 _ hv with r | r
        · rw [r]; exact p2
        · exact r
      · rw [List.getD_eq_getElem?_getD, List.getElem?_eq_none (by rw [h.lL]; omega)] at p2; cases p2
/-- What went on against an arc that leads here. -/
theorem SendTo.against {n s t : Int} {es : List Arc} {B : List Int} {f : Nat} {a most x q x1 : Int} {L F L2 F2 L1 F1 : List Int} {k j jb : Nat} (h : SendTo n s t es B a most L F j jb x L2 F2) (hi : SendIn n s t es B f a most L F) (hk : k < es.length) (hsrc : (es.getD k default).dst = a) (hlv : B.getD (es.getD k default).src.toNat 0 = B.getD a.toNat 0 + 1) (c : SendOk n s t es B (es.getD k default).src q L2 F2 x1 L1 F1) (hq1 : q ≤ most - x) (hq2 : q ≤ F2.getD k 0) :
    SendTo n s t es B a most L F j jb (x + x1) L1 (F1.set k (F1.getD k 0 - x1)) := by
  obtain ⟨w, hw⟩ : ∃ w, (es.getD k default).src = w := ⟨_, rfl⟩
  rw [hw] at hlv c
  have hB0 := hi.lv.2
  have a0 := hi.a0
  have hlen := c.fin.len
  have hst : F1.getD k 0 = F2.getD k 0 := c.still k hk (fun q => by rw [hsrc] at q; omega)
  have hx0 := h.x0
  have hc0 := c.x0
  have hc1 := c.x1
  have hself : (F1.set k (F1.getD k 0 - x1)).getD k 0 = F1.getD k 0 - x1 := getD_set_self _ _ _ _ (by omega)
  have hoth : ∀ i, i ≠ k → (F1.set k (F1.getD k 0 - x1)).getD i 0 = F1.getD i 0 := fun i hne => getD_set_ne _ _ _ _ _ (Ne.symm hne)
  have hroom : ∀ u v : Int, LeftL es (F1.set k (F1.getD k 0 - x1)) u v → LeftL es F1 u v ∨ (u = w ∧ v = a) := fun u v ⟨i, hi1, hi2⟩ => by
    by_cases e : i = k
    · subst e
      rw [hself] at hi2
      rcases hi2 with ⟨p1, p2, p3⟩ | ⟨p1, p2, p3⟩
      · exact .inr ⟨by rw [← hw]; exact p1.symm, by rw [← hsrc]; exact p2.symm⟩
      · exact .inl ⟨i, hi1, .inr ⟨p1, p2, by omega⟩⟩
    · rw [hoth i e] at hi2; exact .inl ⟨i, hi1, hi2⟩
  have hz : x + x1 = 0 → F1.set k (F1.getD k 0 - x1) = F2 := fun e => by
    have e1 := c.none (by omega)
    rw [e1, show x1 = 0 by omega, Int.sub_zero]
    refine List.ext_getElem (by rw [List.length_set]) fun i i1 i2 => ?_
    rw [List.getElem_set]
    split
    · rename_i e2; subst e2; rw [getD_lt _ _ k i2]
    · rfl
  have hlow1 : ∀ v, v < 12 → L1.getD v 0 = L2.getD v 0 ∨ L1.getD v 0 = -1 := fun v hv => (c.low v hv).imp id (·.1)
  have hdst := hi.top
  refine ⟨⟨by rw [List.length_set]; exact hlen, fun i hi1 => ?_⟩, c.lL, by omega, by omega, fun v hv => ?_, by rw [c.tl]; exact h.tl, fun u v u0 u1 v0 v1 hu hd hl hb => ?_, fun v v0 v1 => ?_, fun u v hl => ?_, fun i hi1 hn => ?_, fun e => ?_, fun e i hi1 hs hb => ?_, fun e i hi1 hs hb => ?_⟩
  · by_cases e : i = k
    · subst e; rw [hself]; have := c.fin.at_ i hi1; omega
    · rw [hoth i e]; exact c.fin.at_ i hi1
  · rcases c.low v hv with p | ⟨p1, p2⟩
    · rw [p]; exact h.low v hv
    · exact .inr ⟨p1, by omega⟩
  · rcases hroom u v hl with p | ⟨p1, p2⟩
    · exact c.dead u v u0 u1 v0 v1 hu hd p hb
    · subst p1; subst p2; omega
  · rw [gone_set _ _ hk hlen, hsrc, hw, c.gone v v0 v1, h.gone v v0 v1]
    by_cases e1 : v = a <;> by_cases e2 : v = w <;> by_cases e3 : v = t <;> simp only [e1, e2, e3, if_true, if_false, eq_comm] <;> (repeat' split) <;> omega
  · rcases hroom u v hl with p | ⟨p1, p2⟩
    · rcases c.back u v p with p | p
      · exact h.back u v p
      · exact .inr p
    · subst p1; subst p2; exact .inr ⟨hlv, hB0⟩
  · have hne : i ≠ k := fun e => hn (by subst e; rw [hsrc, hw]; omega)
    rw [hoth i hne, c.still i hi1 (fun p => hn ⟨p.1, p.2.1, by omega, by omega⟩)]
    exact h.still i hi1 hn
  · rw [hz e]; exact h.none (by omega)
  · rw [hz e]
    rcases h.fwd (by omega) i hi1 hs hb with p | ⟨p1, p2⟩
    · exact .inl p
    · refine .inr ⟨p1, ?_⟩
      by_cases hv : (es.getD i default).dst.toNat < 12
      · rcases hlow1 _ hv with r | r
        · rw [r]; exact p2
        · exact r
      · rw [List.getD_eq_getElem?_getD, List.getElem?_eq_none (by rw [h.lL]; omega)] at p2; cases p2
  · rw [hz e]
    rcases h.bwd (by omega) i hi1 hs hb with p | ⟨p1, p2⟩
    · exact .inl p
    · refine .inr ⟨p1, ?_⟩
      by_cases hv : (es.getD i default).src.toNat < 12
      · rcases hlow1 _ hv with r | r
        · rw [r]; exact p2
        · exact r
      · rw [List.getD_eq_getElem?_getD, List.getElem?_eq_none (by rw [h.lL]; omega)] at p2; cases p2
/-- An arc from here with nothing left, or to what is dead: when nothing went along it. -/
theorem SendTo.fwdNext {n s t : Int} {es : List Arc} {B : List Int} {a most x : Int} {L F L2 F2 : List Int} {k kb : Nat} (h : SendTo n s t es B a most L F k kb x L2 F2) (hc : x = 0 → (es.getD k default).src = a → B.getD (es.getD k default).dst.toNat 0 = B.getD a.toNat 0 + 1 → F2.getD k 0 = (es.getD k default).cap ∨ ((es.getD k default).dst ≠ t ∧ L2.getD (es.getD k default).dst.toNat 0 = -1)) : SendTo n s t es B a most L F (k + 1) kb x L2 F2 :=
  ⟨h.fin, h.lL, h.x0, h.x1, h.low, h.tl, h.dead, h.gone, h.back, h.still, h.none, fun e j hj h1 h2 => by
    rcases Nat.lt_succ_iff_lt_or_eq.1 hj with q | rfl
    · exact h.fwd e j q h1 h2
    · exact hc e h1 h2, h.bwd⟩
theorem SendTo.bwdNext {n s t : Int} {es : List Arc} {B : List Int} {a most x : Int} {L F L2 F2 : List Int} {k kb : Nat} (h : SendTo n s t es B a most L F k kb x L2 F2) (hc : x = 0 → (es.getD kb default).dst = a → B.getD (es.getD kb default).src.toNat 0 = B.getD a.toNat 0 + 1 → F2.getD kb 0 = 0 ∨ ((es.getD kb default).src ≠ t ∧ L2.getD (es.getD kb default).src.toNat 0 = -1)) : SendTo n s t es B a most L F k (kb + 1) x L2 F2 :=
  ⟨h.fin, h.lL, h.x0, h.x1, h.low, h.tl, h.dead, h.gone, h.back, h.still, h.none, h.fwd, fun e j hj h1 h2 => by
    rcases Nat.lt_succ_iff_lt_or_eq.1 hj with q | rfl
    · exact h.bwd e j q h1 h2
    · exact hc e h1 h2⟩
/-- What is alive is at its level; here is alive. -/
theorem SendTo.here {n s t : Int} {es : List Arc} {B : List Int} {f : Nat} {a most x : Int} {L F L2 F2 : List Int} {k kb : Nat} (h : SendTo n s t es B a most L F k kb x L2 F2) (hi : SendIn n s t es B f a most L F) (hn : n ≤ 12) : L2.getD a.toNat 0 = B.getD a.toNat 0 := by
  have := hi.a0; have := hi.a1
  rcases h.low a.toNat (by omega) with q | ⟨_, q⟩
  · rw [q]; exact hi.lv.1
  · omega
theorem SendTo.alive {n s t : Int} {es : List Arc} {B : List Int} {f : Nat} {a most x : Int} {L F L2 F2 : List Int} {k kb : Nat} (h : SendTo n s t es B a most L F k kb x L2 F2) (hi : SendIn n s t es B f a most L F) {v : Nat} (hv : v < 12) : L2.getD v 0 = B.getD v 0 ∨ L2.getD v 0 = -1 := by
  rcases h.low v hv with q | ⟨q, _⟩
  · rw [q]; exact hi.low v hv
  · exact .inr q
/-- The next node may be asked. -/
theorem SendTo.ask {n s t : Int} {es : List Arc} {B : List Int} {f : Nat} {a most x q w : Int} {L F L2 F2 : List Int} {k kb : Nat} (h : SendTo n s t es B a most L F k kb x L2 F2) (hi : SendIn n s t es B (f + 1) a most L F) (hn : n ≤ 12) (w0 : 0 ≤ w) (w1 : w < n) (hw : L2.getD w.toNat 0 = L2.getD a.toNat 0 + 1) (q0 : 0 ≤ q) (q1 : q ≤ 600000) : SendIn n s t es B f w q L2 F2 ∧ B.getD w.toNat 0 = B.getD a.toNat 0 + 1 := by
  have ha := h.here hi hn
  have hB := hi.lv.2
  have hwB : L2.getD w.toNat 0 = B.getD w.toNat 0 := (h.alive hi (v := w.toNat) (by omega)).resolve_right (by omega)
  have hfu := hi.fuel
  exact ⟨⟨h.fin, hi.lB, h.lL, w0, w1, ⟨hwB, by omega⟩, fun v hv => h.alive hi hv, by rw [h.tl]; exact hi.tl, hi.top, by omega, q0, q1, h.dead⟩, by omega⟩
theorem SendOk.fwdK {n s t w q x x1 most cap : Int} {es : List Arc} {B L2 F2 L1 F1 : List Int} {k : Nat} (c : SendOk n s t es B w q L2 F2 x1 L1 F1) (hq : q = min (most - x) (cap - F2.getD k 0)) (hm : 0 < most) (hx0 : 0 ≤ x) (hx : x + x1 = 0) (hk : k < es.length) : (F1.set k (F1.getD k 0 + x1)).getD k 0 = cap ∨ (w ≠ t ∧ L1.getD w.toNat 0 = -1) := by
  have c0 := c.x0
  have c1 := c.x1
  have hz : x1 = 0 := by omega
  rw [getD_set_self _ _ _ _ (by rw [c.fin.len]; exact hk), c.none hz]
  by_cases h : 0 < q
  · exact .inr (c.shut hz h)
  · left; omega
theorem SendOk.bwdK {n s t w q x x1 most : Int} {es : List Arc} {B L2 F2 L1 F1 : List Int} {k : Nat} (c : SendOk n s t es B w q L2 F2 x1 L1 F1) (hq : q = min (most - x) (F2.getD k 0)) (hm : 0 < most) (hx0 : 0 ≤ x) (hx : x + x1 = 0) (hk : k < es.length) : (F1.set k (F1.getD k 0 - x1)).getD k 0 = 0 ∨ (w ≠ t ∧ L1.getD w.toNat 0 = -1) := by
  have c0 := c.x0
  have c1 := c.x1
  have hz : x1 = 0 := by omega
  rw [getD_set_self _ _ _ _ (by rw [c.fin.len]; exact hk), c.none hz]
  by_cases h : 0 < q
  · exact .inr (c.shut hz h)
  · left; omega
theorem SendTo.deadK {n s t : Int} {es : List Arc} {B : List Int} {f : Nat} {a most x w : Int} {L F L2 F2 : List Int} {k kb : Nat} (h : SendTo n s t es B a most L F k kb x L2 F2) (hi : SendIn n s t es B f a most L F) (hn : n ≤ 12) (w0 : 0 ≤ w) (w1 : w < n) (hne : L2.getD w.toNat 0 ≠ L2.getD a.toNat 0 + 1) (hB : B.getD w.toNat 0 = B.getD a.toNat 0 + 1) : w ≠ t ∧ L2.getD w.toNat 0 = -1 := by
  have ha := h.here hi hn
  have hB0 := hi.lv.2
  have hd : L2.getD w.toNat 0 = -1 := (h.alive hi (v := w.toNat) (by omega)).resolve_left (by omega)
  refine ⟨fun e => ?_, hd⟩
  subst e
  have := h.tl
  have := hi.tl
  omega
end Go.Ab
