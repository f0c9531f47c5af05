/- Of levels: how far each node is, by what is left: the plain laws. -/
import Derived.Test.YtcmaffldmodacaaPlA
namespace Go.Ab
/-- What is left from u to v. -/
def LeftL (es : List Arc) (F : List Int) (u v : Int) : Prop := ∃ k, k < es.length ∧ (((es.getD k default).src = u ∧ (es.getD k default).dst = v ∧ F.getD k 0 < (es.getD k default).cap) ∨ ((es.getD k default).dst = u ∧ (es.getD k default).src = v ∧ 0 < F.getD k 0))
/-- Of the levels: the source is at 0; each other that is come to has one ahead of it; the next of what is come to are come to, one level on at the most. -/
structure LevL (n s : Int) (es : List Arc) (F L : List Int) : Prop where
  len : L.length = 12
  src : L.getD s.toNat 0 = 0
  lo : ∀ v, v < 12 → -1 ≤ L.getD v 0
  ahead : ∀ v, v < 12 → 0 < L.getD v 0 → ∃ u : Int, 0 ≤ u ∧ u < n ∧ L.getD u.toNat 0 = L.getD v 0 - 1 ∧ LeftL es F u v
  next : ∀ u v : Int, 0 ≤ u → u < n → 0 ≤ v → v < n → 0 ≤ L.getD u.toNat 0 → LeftL es F u v → 0 ≤ L.getD v.toNat 0 ∧ L.getD v.toNat 0 ≤ L.getD u.toNat 0 + 1
  only : ∀ v, v < 12 → L.getD v 0 = 0 → (v : Int) = s
/-- On the way: Q is what is to be looked at yet; all that is come to and not in Q is done. -/
structure LevQ (n s : Int) (es : List Arc) (F L Q : List Int) : Prop where
  len : L.length = 12
  src : L.getD s.toNat 0 = 0
  lo : ∀ v, v < 12 → -1 ≤ L.getD v 0
  ahead : ∀ v, v < 12 → 0 < L.getD v 0 → ∃ u : Int, 0 ≤ u ∧ u < n ∧ L.getD u.toNat 0 = L.getD v 0 - 1 ∧ LeftL es F u v
  done : ∀ u v : Int, 0 ≤ u → u < n → 0 ≤ v → v < n → 0 ≤ L.getD u.toNat 0 → u ∉ Q → LeftL es F u v → 0 ≤ L.getD v.toNat 0 ∧ L.getD v.toNat 0 ≤ L.getD u.toNat 0 + 1
  inQ : ∀ q ∈ Q, 0 ≤ q ∧ q < n ∧ 0 ≤ L.getD q.toNat 0
  mono : ∀ i j, i ≤ j → j < Q.length → L.getD (Q.getD i 0).toNat 0 ≤ L.getD (Q.getD j 0).toNat 0
  span : ∀ v, v < 12 → 0 < Q.length → L.getD v 0 ≤ L.getD (Q.getD 0 0).toNat 0 + 1
  only : ∀ v, v < 12 → L.getD v 0 = 0 → (v : Int) = s
theorem LevQ.fin {n s : Int} {es : List Arc} {F L : List Int} (h : LevQ n s es F L []) : LevL n s es F L :=
  ⟨h.len, h.src, h.lo, h.ahead, fun u v u0 u1 v0 v1 hu hl => h.done u v u0 u1 v0 v1 hu (by simp) hl, h.only⟩
def cntNeg (L : List Int) : Nat := L.countP fun x => decide (x < 0)
theorem neg_set {L : List Int} {v : Nat} {x : Int} (hv : v < L.length) (h : L.getD v 0 < 0) (hx : 0 ≤ x) : cntNeg (L.set v x) + 1 = cntNeg L := by
  unfold cntNeg
  rw [List.countP_set hv]
  have hb : L[v] < 0 := by rwa [getD_lt _ _ v hv] at h
  have : 0 < L.countP fun x => decide (x < 0) := List.countP_pos_iff.2 ⟨L[v], List.getElem_mem hv, decide_eq_true hb⟩
  simp [hb, show ¬ x < 0 by omega]; omega
theorem levq_start {n s : Int} {es : List Arc} {F L : List Int} (hl : L.length = 12) (hm : ∀ j, j < 12 → L.getD j 0 = -1) (s0 : 0 ≤ s) (s1 : s < n) (hn : n ≤ 12) : LevQ n s es F (L.set s.toNat 0) [s] := by
  have hs : (L.set s.toNat 0).getD s.toNat 0 = 0 := getD_set_self _ _ _ _ (by omega)
  have ho : ∀ v, v < 12 → v ≠ s.toNat → (L.set s.toNat 0).getD v 0 = -1 := fun v hv hne => by rw [getD_set_ne _ _ _ _ _ (Ne.symm hne)]; exact hm v hv
  have hc : ∀ v, v < 12 → (L.set s.toNat 0).getD v 0 = 0 ∧ v = s.toNat ∨ (L.set s.toNat 0).getD v 0 = -1 ∧ v ≠ s.toNat := fun v hv => by
    by_cases e : v = s.toNat
    · subst e; exact .inl ⟨hs, rfl⟩
    · exact .inr ⟨ho v hv e, e⟩
  refine ⟨by rw [List.length_set]; exact hl, hs, fun v hv => ?_, fun v hv h => ?_, fun u v u0 u1 v0 v1 hu hq _ => ?_, fun q hq => ?_, fun i j hij hj => ?_, fun v hv _ => ?_, fun v hv h => ?_⟩
  · rcases hc v hv with q | q <;> omega
  · rcases hc v hv with q | q <;> omega
  · rcases hc u.toNat (by omega) with q | q
    · exact absurd (List.mem_singleton.2 (by omega)) hq
    · omega
  · rw [List.mem_singleton] at hq; subst hq; exact ⟨s0, s1, by omega⟩
  · simp only [List.length_singleton] at hj
    obtain rfl : j = 0 := by omega
    obtain rfl : i = 0 := by omega
    exact Int.le_refl _
  · show _ ≤ (L.set s.toNat 0).getD s.toNat 0 + 1
    rcases hc v hv with q | q <;> omega
  · rcases hc v hv with q | q <;> omega
/-- What of a node has been looked at. -/
def PartL (es : List Arc) (F L : List Int) (a : Int) (k : Nat) : Prop := ∀ j, j < k → ((es.getD j default).src = a → F.getD j 0 < (es.getD j default).cap → 0 ≤ L.getD (es.getD j default).dst.toNat 0 ∧ L.getD (es.getD j default).dst.toNat 0 ≤ L.getD a.toNat 0 + 1) ∧ ((es.getD j default).dst = a → 0 < F.getD j 0 → 0 ≤ L.getD (es.getD j default).src.toNat 0 ∧ L.getD (es.getD j default).src.toNat 0 ≤ L.getD a.toNat 0 + 1)
theorem LevQ.mark {n s : Int} {es : List Arc} {F L Q : List Int} (h : LevQ n s es F L Q) (hn : n ≤ 12) (hQ : 0 < Q.length) {v : Int} (v0 : 0 ≤ v) (v1 : v < n) (hneg : L.getD v.toNat 0 < 0) (hl : LeftL es F (Q.getD 0 0) v) :
    LevQ n s es F (L.set v.toNat (L.getD (Q.getD 0 0).toNat 0 + 1)) (Q ++ [v]) := by
  obtain ⟨a0, a1, a2⟩ := h.inQ (Q.getD 0 0) (getD_mem hQ)
  obtain ⟨a, ha⟩ : ∃ a, Q.getD 0 0 = a := ⟨_, rfl⟩
  rw [ha] at a0 a1 a2 hl ⊢
  have hlen := h.len
  obtain ⟨L2, hL2⟩ : ∃ L2, L.set v.toNat (L.getD a.toNat 0 + 1) = L2 := ⟨_, rfl⟩
  have hv : L2.getD v.toNat 0 = L.getD a.toNat 0 + 1 := by rw [← hL2]; exact getD_set_self _ _ _ _ (by omega)
  have ho : ∀ w : Nat, w ≠ v.toNat → L2.getD w 0 = L.getD w 0 := fun w hw => by rw [← hL2]; exact getD_set_ne _ _ _ _ _ (Ne.symm hw)
  have hpos : ∀ w : Nat, 0 ≤ L.getD w 0 → L2.getD w 0 = L.getD w 0 := fun w hw => ho w (fun e => by subst e; omega)
  rw [hL2]
  have hA : L2.getD a.toNat 0 = L.getD a.toNat 0 := hpos _ a2
  have hQg : ∀ i, i < Q.length → (Q ++ [v]).getD i 0 = Q.getD i 0 := fun i hi => by rw [List.getD_eq_getElem?_getD, List.getElem?_append_left hi, ← List.getD_eq_getElem?_getD]
  have hQe : (Q ++ [v]).getD Q.length 0 = v := by rw [List.getD_eq_getElem?_getD, List.getElem?_append_right (Nat.le_refl _)]; simp
  have hQL : ∀ i, i < Q.length → L2.getD (Q.getD i 0).toNat 0 = L.getD (Q.getD i 0).toNat 0 := fun i hi => hpos _ (h.inQ _ (getD_mem hi)).2.2
  refine ⟨by rw [← hL2, List.length_set]; exact hlen, by rw [hpos _ (by rw [h.src]; omega)]; exact h.src, fun w hw => ?_, fun w hw hp => ?_, fun u w u0 u1 w0 w1 hu hq hlf => ?_, fun q hq => ?_, fun i j hij hj => ?_, fun w hw _ => ?_, fun w hw hz => ?_⟩
  · by_cases e : w = v.toNat
    · subst e; omega
    · rw [ho w e]; exact h.lo w hw
  · by_cases e : w = v.toNat
    · subst e
      refine ⟨a, a0, a1, by rw [hA, hv]; omega, ?_⟩
      rw [Int.toNat_of_nonneg v0]; exact hl
    · rw [ho w e] at hp ⊢
      obtain ⟨u, u0, u1, u2, u3⟩ := h.ahead w hw hp
      exact ⟨u, u0, u1, by rw [hpos _ (by omega)]; exact u2, u3⟩
  · have hne : u ≠ v := fun e => hq (by rw [e]; exact List.mem_append_right _ (List.mem_singleton.2 rfl))
    have hu2 : L2.getD u.toNat 0 = L.getD u.toNat 0 := ho _ (by omega)
    rw [hu2] at hu ⊢
    obtain ⟨d1, d2⟩ := h.done u w u0 u1 w0 w1 hu (fun q => hq (List.mem_append_left _ q)) hlf
    rw [hpos _ d1]; exact ⟨d1, d2⟩
  · rcases List.mem_append.1 hq with q1 | q1
    · obtain ⟨b0, b1, b2⟩ := h.inQ q q1
      exact ⟨b0, b1, by rw [hpos _ b2]; exact b2⟩
    · rw [List.mem_singleton] at q1; subst q1; exact ⟨v0, v1, by omega⟩
  · rw [List.length_append, List.length_singleton] at hj
    by_cases ej : j < Q.length
    · rw [hQg i (by omega), hQg j ej, hQL i (by omega), hQL j ej]; exact h.mono i j hij ej
    · obtain rfl : j = Q.length := by omega
      rw [hQe, hv]
      by_cases ei : i < Q.length
      · rw [hQg i ei, hQL i ei]
        have := h.span (Q.getD i 0).toNat (by have := h.inQ _ (getD_mem (d := 0) ei); omega) hQ
        rw [ha] at this; exact this
      · obtain rfl : i = Q.length := by omega
        rw [hQe, hv]; exact Int.le_refl _
  · rw [hQg 0 hQ, ha, hA]
    by_cases e : w = v.toNat
    · subst e; omega
    · rw [ho w e]
      have := h.span w hw hQ
      rw [ha] at this; exact this
  · by_cases e : w = v.toNat
    · subst e; omega
    · rw [ho w e] at hz; exact h.only w hw hz
theorem LevQ.pop {n s : Int} {es : List Arc} {F L Q : List Int} (h : LevQ n s es F L Q) (hQ : 0 < Q.length) (hp : PartL es F L (Q.getD 0 0) es.length) (hn : n ≤ 12) : LevQ n s es F L (Q.drop 1) := by
  have hdg : ∀ i, (Q.drop 1).getD i 0 = Q.getD (i + 1) 0 := fun i => by rw [List.getD_eq_getElem?_getD, List.getElem?_drop, ← List.getD_eq_getElem?_getD, Nat.add_comm]
  refine ⟨h.len, h.src, h.lo, h.ahead, fun u v u0 u1 v0 v1 hu hq hlf => ?_, fun q hq => h.inQ q (List.mem_of_mem_drop hq), fun i j hij hj => ?_, fun v hv hd => ?_, h.only⟩
  · by_cases e : u = Q.getD 0 0
    · rw [e] at hlf ⊢
      obtain ⟨k, hk, ⟨k1, k2, k3⟩ | ⟨k1, k2, k3⟩⟩ := hlf
      · have := (hp k hk).1 k1 k3
        rw [k2] at this; exact this
      · have := (hp k hk).2 k1 k3
        rw [k2] at this; exact this
    · refine h.done u v u0 u1 v0 v1 hu (fun q => ?_) hlf
      cases Q with
      | nil => cases hQ
      | cons b r =>
        rcases List.mem_cons.1 q with q | q
        · exact e q
        · exact hq q
  · rw [List.length_drop] at hj
    rw [hdg, hdg]; exact h.mono (i + 1) (j + 1) (by omega) (by omega)
  · rw [List.length_drop] at hd
    rw [hdg, show 0 + 1 = 1 from rfl]
    have h1 := h.span v hv hQ
    have h2 := h.mono 0 1 (by omega) (by omega)
    omega
theorem PartL.mark {es : List Arc} {F L : List Int} {a : Int} {k : Nat} (h : PartL es F L a k) {v : Nat} {x : Int} (hneg : L.getD v 0 < 0) (ha : 0 ≤ L.getD a.toNat 0) : PartL es F (L.set v x) a k := by
  have hA : (L.set v x).getD a.toNat 0 = L.getD a.toNat 0 := getD_set_ne _ _ _ _ _ (fun e => by rw [e] at hneg; omega)
  have hpos : ∀ w : Nat, 0 ≤ L.getD w 0 → (L.set v x).getD w 0 = L.getD w 0 := fun w hw => getD_set_ne _ _ _ _ _ (fun e => by subst e; omega)
  intro j hj
  refine ⟨fun h1 h2 => ?_, fun h1 h2 => ?_⟩
  · have := (h j hj).1 h1 h2; rw [hA, hpos _ this.1]; exact this
  · have := (h j hj).2 h1 h2; rw [hA, hpos _ this.1]; exact this
theorem PartL.start {es : List Arc} {F L : List Int} {a : Int} : PartL es F L a 0 := fun j hj => by omega
theorem PartL.succ {es : List Arc} {F L : List Int} {a : Int} {k : Nat} (h : PartL es F L a k) (h1 : (es.getD k default).src = a → F.getD k 0 < (es.getD k default).cap → 0 ≤ L.getD (es.getD k default).dst.toNat 0 ∧ L.getD (es.getD k default).dst.toNat 0 ≤ L.getD a.toNat 0 + 1) (h2 : (es.getD k default).dst = a → 0 < F.getD k 0 → 0 ≤ L.getD (es.getD k default).src.toNat 0 ∧ L.getD (es.getD k default).src.toNat 0 ≤ L.getD a.toNat 0 + 1) : PartL es F L a (k + 1) := fun j hj => by
  rcases Nat.lt_succ_iff_lt_or_eq.1 hj with q | rfl
  · exact h j q
  · exact ⟨h1, h2⟩
/-- One node is looked at, arc by arc. -/
structure LevS (n s : Int) (es : List Arc) (F L Q : List Int) (a : Int) (k c : Nat) : Prop where
  q : LevQ n s es F L Q
  pos : 0 < Q.length
  hd : Q.getD 0 0 = a
  part : PartL es F L a k
  cnt : Q.length + cntNeg L = c
def HalfL (es : List Arc) (F L : List Int) (a : Int) (k : Nat) : Prop := (es.getD k default).src = a → F.getD k 0 < (es.getD k default).cap → 0 ≤ L.getD (es.getD k default).dst.toNat 0 ∧ L.getD (es.getD k default).dst.toNat 0 ≤ L.getD a.toNat 0 + 1
theorem LevS.step {n s : Int} {es : List Arc} {F L Q : List Int} {a : Int} {k c : Nat} (h : LevS n s es F L Q a k c) (hn : n ≤ 12) {v : Int} (v0 : 0 ≤ v) (v1 : v < n) (hneg : L.getD v.toNat 0 < 0) (hl : LeftL es F a v) : LevS n s es F (L.set v.toNat (L.getD a.toNat 0 + 1)) (Q ++ [v]) a k c ∧ 0 ≤ (L.set v.toNat (L.getD a.toNat 0 + 1)).getD v.toNat 0 ∧ (L.set v.toNat (L.getD a.toNat 0 + 1)).getD v.toNat 0 ≤ (L.set v.toNat (L.getD a.toNat 0 + 1)).getD a.toNat 0 + 1 := by
  obtain ⟨a0, a1, a2⟩ := h.q.inQ (Q.getD 0 0) (getD_mem h.pos)
  have hlen := h.q.len
  have hm := h.q.mark hn h.pos v0 v1 hneg (by rw [h.hd]; exact hl)
  rw [h.hd] at hm a0 a1 a2
  have hA : (L.set v.toNat (L.getD a.toNat 0 + 1)).getD a.toNat 0 = L.getD a.toNat 0 := getD_set_ne _ _ _ _ _ (fun e => by rw [e] at hneg; omega)
  have hV : (L.set v.toNat (L.getD a.toNat 0 + 1)).getD v.toNat 0 = L.getD a.toNat 0 + 1 := getD_set_self _ _ _ _ (by omega)
  refine ⟨⟨hm, by rw [List.length_append]; have := h.pos; omega, ?_, h.part.mark hneg a2, ?_⟩, by rw [hV]; omega, by rw [hV, hA]; omega⟩
  · rw [List.getD_eq_getElem?_getD, List.getElem?_append_left h.pos, ← List.getD_eq_getElem?_getD]; exact h.hd
  · have := neg_set (L := L) (v := v.toNat) (x := L.getD a.toNat 0 + 1) (by omega) hneg (by omega)
    have := h.cnt
    rw [List.length_append, List.length_singleton]; omega
theorem LevS.no1 {n s : Int} {es : List Arc} {F L Q : List Int} {a : Int} {k c : Nat} (h : LevS n s es F L Q a k c) (hn : n ≤ 12) {v : Int} (v0 : 0 ≤ v) (v1 : v < n) (hp : 0 ≤ L.getD v.toNat 0) : 0 ≤ L.getD v.toNat 0 ∧ L.getD v.toNat 0 ≤ L.getD a.toNat 0 + 1 := by
  have := h.q.span v.toNat (by omega) h.pos
  rw [h.hd] at this
  exact ⟨hp, this⟩
theorem HalfL.mark {n s : Int} {es : List Arc} {F L Q : List Int} {a : Int} {k j c : Nat} (hh : HalfL es F L a k) (h : LevS n s es F L Q a j c) {v : Nat} {x : Int} (hneg : L.getD v 0 < 0) : HalfL es F (L.set v x) a k := fun h1 h2 => by
  have a2 := (h.q.inQ (Q.getD 0 0) (getD_mem h.pos)).2.2
  rw [h.hd] at a2
  have hA : (L.set v x).getD a.toNat 0 = L.getD a.toNat 0 := getD_set_ne _ _ _ _ _ (fun e => by rw [e] at hneg; omega)
  have := hh h1 h2
  rw [hA, show (L.set v x).getD (es.getD k default).dst.toNat 0 = L.getD (es.getD k default).dst.toNat 0 from getD_set_ne _ _ _ _ _ (fun e => by rw [e] at hneg; omega)]
  exact this
theorem LevS.succ {n s : Int} {es : List Arc} {F L Q : List Int} {a : Int} {k c : Nat} (h : LevS n s es F L Q a k c) (hh : HalfL es F L a k) (h2 : (es.getD k default).dst = a → 0 < F.getD k 0 → 0 ≤ L.getD (es.getD k default).src.toNat 0 ∧ L.getD (es.getD k default).src.toNat 0 ≤ L.getD a.toNat 0 + 1) : LevS n s es F L Q a (k + 1) c := ⟨h.q, h.pos, h.hd, h.part.succ hh h2, h.cnt⟩
theorem LevS.fin {n s : Int} {es : List Arc} {F L Q : List Int} {a : Int} {k c : Nat} (h : LevS n s es F L Q a k c) (hk : es.length ≤ k) (hn : n ≤ 12) : LevQ n s es F L (Q.drop 1) := h.q.pop h.pos (by rw [h.hd]; exact fun j hj => h.part j (by omega)) hn
theorem LevQ.look {n s : Int} {es : List Arc} {F L Q : List Int} (h : LevQ n s es F L Q) (hQ : 0 < Q.length) : LevS n s es F L Q (Q.getD 0 0) 0 (Q.length + cntNeg L) := ⟨h, hQ, rfl, PartL.start, rfl⟩
def UpL (L : List Int) : Prop := ∀ v, v < 12 → L.getD v 0 + (cntNeg L : Int) ≤ 12
theorem UpL.mark {L : List Int} (h : UpL L) (hl : L.length = 12) {v a : Nat} (hv : v < 12) (ha : a < 12) (hneg : L.getD v 0 < 0) (hap : 0 ≤ L.getD a 0) : UpL (L.set v (L.getD a 0 + 1)) := fun w hw => by
  have h1 := neg_set (L := L) (v := v) (x := L.getD a 0 + 1) (by omega) hneg (by omega)
  have h2 := h a ha
  by_cases e : v = w
  · subst e; rw [getD_set_self _ _ _ _ (by omega)]; omega
  · rw [getD_set_ne _ _ _ _ _ e]; have := h w hw; omega
theorem up_start {L : List Int} (hl : L.length = 12) (hm : ∀ j, j < 12 → L.getD j 0 = -1) {s : Nat} : UpL (L.set s 0) ∧ ([0] : List Int).length + cntNeg (L.set s 0) ≤ 13 := by
  have h1 : cntNeg (L.set s 0) ≤ 12 := by
    have := List.countP_le_length (p := fun x : Int => decide (x < 0)) (l := L.set s 0)
    rw [List.length_set, hl] at this; exact this
  refine ⟨fun w hw => ?_, by simp; omega⟩
  by_cases e : s = w
  · subst e; rw [getD_set_self _ _ _ _ (by omega)]; omega
  · rw [getD_set_ne _ _ _ _ _ e, hm w hw]; omega
end Go.Ab
