/- Of arcs' colours: as many as arcs at a node are enough (Koenig): the plain laws. -/
import Derived.Test.YtcmaffldmodacaaPlSwap
import Derived.Test.YtcmaffldmodacaaPlStable
import Derived.Test.YtcmaffldmodacaaPlEuler2
namespace Go.Ab
def dg (es : List Arc) (v : Int) : Int := cntE Arc.src es v + cntE Arc.dst es v
theorem cntE_nn (f : Arc → Int) (v : Int) : ∀ es : List Arc, 0 ≤ cntE f es v
  | [] => Int.le_refl _
  | a :: r => by
    have := cntE_nn f v r
    rw [cntE]; split <;> omega
theorem dg_pos (es : List Arc) (v : Int) : 0 ≤ dg es v := by
  have := cntE_nn Arc.src v es; have := cntE_nn Arc.dst v es; unfold dg; omega
def incA (v : Int) (a : Arc) : Bool := decide (a.src = v) || decide (a.dst = v)
theorem count_dg (v : Int) : ∀ es : List Arc, ((es.countP (incA v) : Nat) : Int) ≤ dg es v
  | [] => Int.le_refl _
  | a :: r => by
    have h := count_dg v r
    unfold dg at h ⊢
    rw [List.countP_cons, cntE, cntE]
    unfold incA at h ⊢
    by_cases h1 : a.src = v <;> by_cases h2 : a.dst = v <;> simp [h1, h2] <;> omega
theorem getD_range {α : Type} (l : List α) (d : α) : (List.range l.length).map (fun i => l.getD i d) = l := by
  refine List.ext_getElem (by simp) fun i h1 h2 => ?_
  rw [List.getElem_map, List.getElem_range, getD_lt _ _ i h2]
theorem inc_le {es : List Arc} {v : Int} {W : List Int} (hn : W.Nodup) (h : ∀ j ∈ W, 0 ≤ j ∧ j < es.length ∧ Inc es j v) : (W.length : Int) ≤ dg es v := by
  have h1 := nodup_len (l := W) (m := ((List.range es.length).filter fun i => incA v (es.getD i default)).map fun i : Nat => (i : Int)) hn (fun j hj => by
    obtain ⟨j0, j1, j2⟩ := h j hj
    refine List.mem_map.2 ⟨j.toNat, List.mem_filter.2 ⟨List.mem_range.2 (by omega), ?_⟩, by omega⟩
    unfold incA
    rcases j2 with r | r
    · rw [decide_eq_true (show (es.getD j.toNat default).src = v from r)]; rfl
    · rw [decide_eq_true (show (es.getD j.toNat default).dst = v from r), Bool.or_true])
  have h2 : ((List.range es.length).filter fun i => incA v (es.getD i default)).length = es.countP (incA v) := by
    rw [← List.countP_eq_length_filter]
    have := List.countP_map (p := incA v) (f := fun i => es.getD i default) (l := List.range es.length)
    rw [getD_range] at this
    rw [this]; rfl
  rw [List.length_map, h2] at h1
  have := count_dg v es
  omega
theorem AtOk.free {es : List Arc} {n q : Int} {K : Nat} {L : List (List Int)} {C : List Int} (h : AtOk es n q K L C) (hK : K < es.length) {v : Int} (hv : Inc es K v) (hd : dg es v ≤ q) : 0 ≤ rk (L.getD v.toNat []) 0 ∧ rk (L.getD v.toNat []) 0 < q ∧ tb L v (rk (L.getD v.toNat []) 0) = 0 := by
  obtain ⟨a1, a2, a3, a4⟩ := h.inr _ (getD_mem (d := default) hK)
  have hKK : ((K : Nat) : Int).toNat = K := by omega
  have v0 : 0 ≤ v ∧ v < n := by
    rcases hv with r | r
    · subst r; unfold srcA; rw [hKK]; exact ⟨a1, a2⟩
    · subst r; unfold dstA; rw [hKK]; exact ⟨a3, a4⟩
  have hrow := h.tab.row v.toNat (by omega)
  have hq : 0 ≤ q := by have := dg_pos es v; omega
  have hm : (0 : Int) ∈ L.getD v.toNat [] := by
    refine Classical.byContradiction fun hno => ?_
    have hall : ∀ e : Nat, e < q.toNat → 0 < tb L v e := fun e he => by
      have h1 := h.rng v e v0.1 v0.2 (by omega) (by omega)
      have h2 : tb L v e ≠ 0 := fun h0 => hno (by
        rw [← h0]; unfold tb; rw [Int.toNat_natCast]
        exact getD_mem (by rw [hrow]; exact he))
      omega
    have hW := inc_le (es := es) (v := v) (W := (K : Int) :: (List.range q.toNat).map fun e : Nat => tb L v e - 1) (List.nodup_cons.2 ⟨fun hin => by
        obtain ⟨e, e1, e2⟩ := List.mem_map.1 hin
        have he := List.mem_range.1 e1
        have := h.rng v e v0.1 v0.2 (by omega) (by omega)
        omega, by
        unfold List.Nodup
        rw [List.pairwise_map]
        refine List.nodup_range.imp_of_mem (fun {a b} ha hb hab => fun e => hab ?_)
        have ha' := List.mem_range.1 ha
        have hb' := List.mem_range.1 hb
        have t1 := (h.to v a v0.1 v0.2 (by omega) (by omega) (hall a ha')).2
        have t2 := (h.to v b v0.1 v0.2 (by omega) (by omega) (hall b hb')).2
        rw [e, t2] at t1
        omega⟩) (fun j hj => by
        rcases List.mem_cons.1 hj with r | r
        · subst r; exact ⟨by omega, by omega, hv⟩
        · obtain ⟨e, e1, e2⟩ := List.mem_map.1 r
          have he := List.mem_range.1 e1
          have hp := hall e he
          have hr := h.rng v e v0.1 v0.2 (by omega) (by omega)
          subst e2
          exact ⟨by omega, by omega, (h.to v e v0.1 v0.2 (by omega) (by omega) hp).1⟩)
    rw [List.length_cons, List.length_map, List.length_range] at hW
    omega
  obtain ⟨r1, r2, r3⟩ := rk_in hm
  rw [hrow] at r2
  exact ⟨r1, by omega, r3⟩
structure MaxOf (m : Nat) (f : Int → Int) (q : Int) : Prop where
  q0 : 0 ≤ q
  le : ∀ v : Nat, v < m → f v ≤ q
  is_ : q = 0 ∨ ∃ v : Nat, v < m ∧ q = f v
theorem MaxOf.start (f : Int → Int) : MaxOf 0 f 0 := ⟨Int.le_refl _, fun v hv => by omega, .inl rfl⟩
theorem MaxOf.step {m : Nat} {f : Int → Int} {q x : Int} (h : MaxOf m f q) (hx : x = f m) : MaxOf (m + 1) f (max q x) := by
  have h0 := h.q0
  refine ⟨by omega, fun v hv => ?_, ?_⟩
  · rcases Nat.lt_succ_iff_lt_or_eq.1 hv with r | r
    · have := h.le v r; omega
    · subst r; omega
  · rcases Int.le_total x q with r | r
    · rw [Int.max_eq_left r]
      rcases h.is_ with s | ⟨v, v1, v2⟩
      · exact .inl s
      · exact .inr ⟨v, by omega, v2⟩
    · rw [Int.max_eq_right r]; exact .inr ⟨m, by omega, hx⟩
theorem MaxOf.uniq {m k : Nat} {f : Int → Int} {q p : Int} (h : MaxOf m f q) (g : MaxOf k f p) (hm : m ≤ k) (hz : ∀ v : Nat, m ≤ v → f v = 0) : q = p := by
  have h1 : q ≤ p := by
    rcases h.is_ with r | ⟨v, v1, v2⟩
    · have := g.q0; omega
    · have := g.le v (by omega); omega
  have h2 : p ≤ q := by
    rcases g.is_ with r | ⟨v, v1, v2⟩
    · have := h.q0; omega
    · by_cases hv : v < m
      · have := h.le v hv; omega
      · have := hz v (by omega); have := h.q0; omega
  omega
theorem at_start {es : List Arc} {n q : Int} {L : List (List Int)} (hA : InR n es) (hl : L.length = n.toNat) (hr : ∀ v : Nat, v < n.toNat → L.getD v [] = List.replicate q.toNat 0) : AtOk es n q 0 L (List.replicate es.length 0) := by
  have hz : ∀ v e : Int, 0 ≤ v → v < n → tb L v e = 0 := fun v e v0 v1 => by
    rw [tb, hr v.toNat (by omega)]; exact getD_zeros _ _
  refine ⟨⟨hl, fun v hv => by rw [hr v hv, List.length_replicate]⟩, hA, Nat.zero_le _, List.length_replicate, fun v e v0 v1 _ _ => by rw [hz v e v0 v1]; omega, fun v e v0 v1 _ _ hp => by rw [hz v e v0 v1] at hp; omega, fun j j0 j1 => by omega⟩
theorem dg_bump {n : Int} {es : List Arc} (hA : InR n es) {k : Nat} (hk : (k : Int) < n) : (bump Arc.src n es).getD k 0 + (bump Arc.dst n es).getD k 0 = dg es k := by
  obtain ⟨h1, h2⟩ := degs hA hk
  rw [h1, h2]; rfl
def ColOk (n : Int) (es : List Arc) (q : Int) (C : List Int) : Prop := ∃ L, AtOk es n q es.length L C ∧ MaxOf n.toNat (dg es) q
theorem two_of {n : Int} {es : List Arc} {S : List Int} (hA : InR n es) (hs : ∀ v : Nat, (v : Int) < n → S.getD v 0 = 0 ∨ S.getD v 0 = 1) (hno : es.any (eqSide S) = false) : TwoSd es S := fun j j0 j1 => by
  have hm : es.getD j.toNat default ∈ es := getD_mem (by omega)
  obtain ⟨a1, a2, a3, a4⟩ := hA _ hm
  have h1 := hs (es.getD j.toNat default).src.toNat (by omega)
  have h2 := hs (es.getD j.toNat default).dst.toNat (by omega)
  have h3 := List.any_eq_false.1 hno _ hm
  unfold eqSide at h3
  rw [decide_eq_true_eq] at h3
  show (S.getD (es.getD j.toNat default).src.toNat 0 = 0 ∧ S.getD (es.getD j.toNat default).dst.toNat 0 = 1) ∨ (S.getD (es.getD j.toNat default).src.toNat 0 = 1 ∧ S.getD (es.getD j.toNat default).dst.toNat 0 = 0)
  omega
theorem sides_two {n : Int} {es : List Arc} (h12 : n ≤ 12) (hA : InR n es) (hno : es.any (eqSide (sidesOf n es)) = false) : TwoSd es (sidesOf n es) :=
  two_of hA (fun v hv => by
    obtain ⟨k, _, h2⟩ := (sided_ref h12 hA).at_ v hv
    rw [h2]; omega) hno
theorem AtOk.put2 {es : List Arc} {n q : Int} {K : Nat} {L : List (List Int)} {C : List Int} (h : AtOk es n q K L C) (hlt : K < es.length) {c x y : Int} (c0 : 0 ≤ c) (c1 : c < q) (hx : tb L x c = 0) (hy : tb L y c = 0) (hxy : (x = (es.getD K default).src ∧ y = (es.getD K default).dst) ∨ (x = (es.getD K default).dst ∧ y = (es.getD K default).src)) :
    AtOk es n q (K + 1) (tset (tset L x c ((K + 1 : Nat) : Int)) y c ((K + 1 : Nat) : Int)) (C.set K c) := by
  have e1 : srcA es (K : Int) = (es.getD K default).src := rfl
  have e2 : dstA es (K : Int) = (es.getD K default).dst := rfl
  refine h.put (k := (K : Int)) rfl hlt c0 c1 ?_ ?_ ?_
  · rw [e1]; rcases hxy with ⟨r1, r2⟩ | ⟨r1, r2⟩
    · rw [← r1]; exact hx
    · rw [← r2]; exact hy
  · rw [e2]; rcases hxy with ⟨r1, r2⟩ | ⟨r1, r2⟩
    · rw [← r2]; exact hy
    · rw [← r1]; exact hx
  · rw [e1, e2]; exact hxy
theorem sidesErr_ok {n : Int} {es : List Arc} (h : sidesErr n es = 0) : graphErr n es (-10000) = 0 ∧ es.any (eqSide (sidesOf n es)) = false := by
  unfold sidesErr at h
  split at h
  · rename_i h1; exact absurd h h1
  · rename_i h1
    split at h
    · cases h
    · rename_i h2
      exact ⟨by omega, by simpa using h2⟩
theorem Inc_k {es : List Arc} {k : Nat} {x : Int} (h : x = (es.getD k default).src ∨ x = (es.getD k default).dst) : Inc es (k : Int) x := by
  have e1 : srcA es (k : Int) = (es.getD k default).src := rfl
  have e2 : dstA es (k : Int) = (es.getD k default).dst := rfl
  unfold Inc; rw [e1, e2]; omega
theorem MaxOf.at_ {m : Nat} {f : Int → Int} {q x : Int} (h : MaxOf m f q) (x0 : 0 ≤ x) (x1 : x.toNat < m) : f x ≤ q := by
  have := h.le x.toNat x1
  rwa [Int.toNat_of_nonneg x0] at this
end Go.Ab
