/- Of a flow that falls into pieces: the plain laws. -/
import Derived.Test.YtnfnlgfdfmnghaaPlB
import Derived.Test.YtnfnlgfdfmnghaaPlA
import Derived.Test.YtnfnlgfdfmnghaaAbC
import Derived.Test.YtnfnlgfdfmnghaaPlA
namespace Go.Ab
structure Chn (es : List Arc) (left : List Int) (B W : List Int) : Prop where
  wl : W.length = B.length + 1
  nd : (W.take B.length).Nodup
  st : ∀ j, j < B.length → 0 ≤ B.getD j 0 ∧ B.getD j 0 < es.length ∧ (es.getD (B.getD j 0).toNat default).src = W.getD j 0 ∧ (es.getD (B.getD j 0).toNat default).dst = W.getD (j + 1) 0 ∧ 0 < left.getD (B.getD j 0).toNat 0
theorem nodup_at {W : List Int} {i j : Nat} (hn : W.Nodup) (hi : i < j) (hj : j < W.length) : W.getD i 0 ≠ W.getD j 0 := fun e => by
  rw [getD_lt _ _ _ hj, getD_lt _ _ _ (by omega)] at e
  exact List.pairwise_iff_getElem.1 hn i j (by omega) hj hi e
theorem take_at {W : List Int} {m i : Nat} (h : i < m) : (W.take m).getD i 0 = W.getD i 0 := by
  simp only [List.getD_eq_getElem?_getD, List.getElem?_take, h, if_true]
theorem Chn.way {es : List Arc} {left B W : List Int} (h : Chn es left B W) : ∀ m i, i + m = B.length → isWay es (B.drop i) (W.getD i 0) (W.getD B.length 0) = true
  | 0, i, hi => by
    rw [List.drop_of_length_le (by omega), show i = B.length by omega]
    simp [isWay]
  | m + 1, i, hi => by
    have hl : i < B.length := by omega
    obtain ⟨q1, q2, q3, q4, _⟩ := h.st i hl
    rw [isWay_drop hl, q4, h.way m (i + 1) (by omega), Bool.and_true]
    exact decide_eq_true ⟨q1, q2, q3⟩
theorem Chn.nodup {es : List Arc} {left B W : List Int} (h : Chn es left B W) : B.Nodup := by
  refine List.pairwise_iff_getElem.2 fun i j hi hj hij e => ?_
  have h1 := (h.st i hi).2.2.1
  have h2 := (h.st j hj).2.2.1
  rw [getD_lt _ _ _ hi, e, ← getD_lt B 0 j hj, h2] at h1
  have hl : j < (W.take B.length).length := by rw [List.length_take, h.wl]; omega
  have := nodup_at h.nd hij hl
  rw [take_at hi, take_at hj] at this
  exact this h1.symm
structure Pc (es : List Arc) (p : Int × List Int) (s t : Int) : Prop where
  ne : p.2 ≠ []
  nd : p.2.Nodup
  kr : ∀ k ∈ p.2, 0 ≤ k ∧ k < es.length
  a1 : 1 ≤ p.1
  way : isWay es p.2 s t = true
def noLoop (es : List Arc) (k : Int) : Prop := (es.getD k.toNat default).src ≠ (es.getD k.toNat default).dst
structure PieceOk (es : List Arc) (left : List Int) (p : Int × List Int) (s t : Int) : Prop extends Pc es p s t where
  le : ∀ k ∈ p.2, p.1 ≤ left.getD k.toNat 0
  zero : ∃ k ∈ p.2, left.getD k.toNat 0 = p.1
  loop : (p.2.length = 1 ∧ s = t) ∨ ∀ k ∈ p.2, noLoop es k
def AmOk (left arcs : List Int) (m : Int) : Prop := (∃ k ∈ arcs, left.getD k.toNat 0 = m) ∧ ∀ k ∈ arcs, m ≤ left.getD k.toNat 0
theorem Chn.piece {es : List Arc} {left B W : List Int} {i : Nat} {m : Int} (h : Chn es left B W) (hi : i < B.length) (hm : AmOk left (B.drop i) m) (hl : (∀ j, j < B.length → W.getD j 0 ≠ W.getD B.length 0) ∨ W.getD i 0 = W.getD B.length 0) :
    PieceOk es left (m, B.drop i) (W.getD i 0) (W.getD B.length 0) := by
  have hmem : ∀ k ∈ B.drop i, ∃ j, i ≤ j ∧ j < B.length ∧ B.getD j 0 = k := fun k hk => by
    obtain ⟨j, hj, e⟩ := mem_getD 0 hk
    rw [List.length_drop] at hj
    refine ⟨i + j, by omega, by omega, ?_⟩
    rw [← e]
    simp only [List.getD_eq_getElem?_getD, List.getElem?_drop]
  have hpos : ∀ k ∈ B.drop i, 0 < left.getD k.toNat 0 := fun k hk => by
    obtain ⟨j, _, hj, e⟩ := hmem k hk
    rw [← e]; exact (h.st j hj).2.2.2.2
  refine ⟨⟨fun e => ?_, h.nodup.sublist (List.drop_sublist _ _), fun k hk => ?_, ?_, h.way (B.length - i) i (by omega)⟩, hm.2, hm.1, ?_⟩
  · have := congrArg List.length e
    simp only [List.length_drop, List.length_nil] at this
    omega
  · obtain ⟨j, _, hj, e⟩ := hmem k hk
    rw [← e]; exact ⟨(h.st j hj).1, (h.st j hj).2.1⟩
  · obtain ⟨k, hk, e⟩ := hm.1
    have := hpos k hk
    simp only
    omega
  · by_cases hc : i + 1 = B.length ∧ W.getD i 0 = W.getD B.length 0
    · exact .inl ⟨by simp only [List.length_drop]; omega, hc.2⟩
    · right
      intro k hk
      obtain ⟨j, hj1, hj, e⟩ := hmem k hk
      obtain ⟨_, _, q3, q4, _⟩ := h.st j hj
      unfold noLoop
      rw [← e, q3, q4]
      by_cases hlast : j + 1 = B.length
      · rw [hlast]
        rcases hl with hl | hl
        · exact hl j hj
        · by_cases hij : i = j
          · exact absurd ⟨by omega, hl⟩ hc
          · rw [← hl]
            have hlen : j < (W.take B.length).length := by rw [List.length_take, h.wl]; omega
            have := nodup_at h.nd (show i < j by omega) hlen
            rw [take_at (by omega), take_at hj] at this
            exact fun q => this q.symm
      · have hlen : j + 1 < (W.take B.length).length := by rw [List.length_take, h.wl]; omega
        have := nodup_at h.nd (show j < j + 1 by omega) hlen
        rw [take_at hj, take_at (by omega)] at this
        exact this
theorem Chn.start {es : List Arc} {left : List Int} (x : Int) : Chn es left [] [x] := ⟨rfl, by simp, fun j hj => by simp at hj⟩
theorem snoc_at (l : List Int) (x : Int) (j : Nat) : (l ++ [x]).getD j 0 = if j < l.length then l.getD j 0 else if j = l.length then x else 0 := by
  simp only [List.getD_eq_getElem?_getD, List.getElem?_append]
  split
  · rfl
  · rename_i h
    by_cases e : j = l.length
    · subst e; simp
    · rw [if_neg e, List.getElem?_eq_none (by simp; omega)]; rfl
theorem Chn.snoc {es : List Arc} {left B W : List Int} {k : Int} (h : Chn es left B W) (hW : W.Nodup) (k0 : 0 ≤ k) (k1 : k < es.length) (hs : (es.getD k.toNat default).src = W.getD B.length 0) (hp : 0 < left.getD k.toNat 0) :
    Chn es left (B ++ [k]) (W ++ [(es.getD k.toNat default).dst]) := by
  have hwl := h.wl
  refine ⟨by simp [hwl], ?_, fun j hj => ?_⟩
  · rw [List.length_append, List.length_singleton, ← hwl, List.take_left]; exact hW
  · rw [List.length_append, List.length_singleton] at hj
    rw [snoc_at, snoc_at, snoc_at]
    by_cases e : j < B.length
    · rw [if_pos e, if_pos (by omega), if_pos (by omega)]; exact h.st j e
    · have e2 : j = B.length := by omega
      subst e2
      rw [if_neg (by omega), if_pos rfl, if_pos (by omega), if_neg (by omega), if_pos (by omega)]
      exact ⟨k0, k1, hs, rfl, hp⟩
def seenOf (W : List Int) : List (Int × Int) := (List.range W.length).map fun j => (W.getD j 0, (j : Int))
theorem seenOf_snoc (W : List Int) (x : Int) : seenOf (W ++ [x]) = seenOf W ++ [(x, (W.length : Int))] := by
  unfold seenOf
  rw [List.length_append, List.length_singleton, List.range_succ, List.map_append]
  congr 1
  · refine List.map_congr_left fun j hj => ?_
    rw [snoc_at, if_pos (List.mem_range.1 hj)]
  · simp only [List.map_cons, List.map_nil]
    rw [snoc_at, if_neg (by omega), if_pos rfl]
theorem findD_some {x : Int} {v : Int} : ∀ {l : List (Int × Int)}, findD x l = some v → (x, v) ∈ l
  | [], h => by cases h
  | p :: r, h => by
    simp only [findD] at h
    split at h
    · rename_i e; cases h; subst e; exact List.mem_cons_self
    · exact List.mem_cons_of_mem _ (findD_some h)
theorem seen_none {W : List Int} {x : Int} (h : findD x (seenOf W) = none) : x ∉ W := fun hx => by
  obtain ⟨j, hj, e⟩ := mem_getD 0 hx
  have : ∀ {l : List (Int × Int)}, findD x l = none → ∀ p ∈ l, p.1 ≠ x := by
    intro l
    induction l with
    | nil => intro _ p hp; cases hp
    | cons q r ih =>
      intro h p hp
      simp only [findD] at h
      split at h
      · cases h
      · rename_i hne
        rcases List.mem_cons.1 hp with rfl | hp
        · exact hne
        · exact ih h p hp
  exact this h (W.getD j 0, (j : Int)) (List.mem_map.2 ⟨j, List.mem_range.2 hj, rfl⟩) e
theorem seen_some {W : List Int} {x v : Int} (h : findD x (seenOf W) = some v) : 0 ≤ v ∧ v < W.length ∧ W.getD v.toNat 0 = x := by
  obtain ⟨j, hj, e⟩ := List.mem_map.1 (findD_some h)
  have := List.mem_range.1 hj
  cases e
  exact ⟨by omega, by omega, by simp⟩
def takeOff (a : Int) (left arcs : List Int) : List Int := arcs.foldl (fun l k => l.set k.toNat (l.getD k.toNat 0 - a)) left
theorem takeOff_len (a : Int) : ∀ (arcs left : List Int), (takeOff a left arcs).length = left.length
  | [], _ => rfl
  | k :: r, left => by
    show (takeOff a (left.set _ _) r).length = _
    rw [takeOff_len a r, List.length_set]
theorem takeOff_other (a : Int) {j : Nat} : ∀ (arcs left : List Int), (∀ k ∈ arcs, k.toNat ≠ j) → (takeOff a left arcs).getD j 0 = left.getD j 0
  | [], _, _ => rfl
  | k :: r, left, h => by
    show (takeOff a (left.set _ _) r).getD j 0 = _
    rw [takeOff_other a r _ (fun q hq => h q (List.mem_cons_of_mem _ hq)), getD_set_ne _ _ _ _ _ (h k List.mem_cons_self)]
theorem takeOff_at (a : Int) {j : Nat} : ∀ (arcs left : List Int), arcs.Nodup → (∀ k ∈ arcs, 0 ≤ k ∧ k < left.length) → (takeOff a left arcs).getD j 0 = left.getD j 0 - (if (j : Int) ∈ arcs then a else 0)
  | [], left, _, _ => by simp [takeOff]
  | k :: r, left, hn, hr => by
    have hn' := List.nodup_cons.1 hn
    have hk := hr k List.mem_cons_self
    show (takeOff a (left.set _ _) r).getD j 0 = _
    by_cases e : k.toNat = j
    · have hjr : (j : Int) ∉ r := by rw [show (j : Int) = k by omega]; exact hn'.1
      rw [takeOff_other a r _ (fun q hq => by
        intro e2
        have := hr q (List.mem_cons_of_mem _ hq)
        exact hn'.1 (by rw [show k = q by omega]; exact hq)), e, getD_set_self _ _ _ _ (by omega), if_pos (by rw [show (j : Int) = k by omega]; exact List.mem_cons_self)]
    · rw [takeOff_at a r _ hn'.2 (fun q hq => by rw [List.length_set]; exact hr q (List.mem_cons_of_mem _ hq)), getD_set_ne _ _ _ _ _ e]
      have : ((j : Int) ∈ k :: r) ↔ (j : Int) ∈ r := by
        rw [List.mem_cons]
        constructor
        · rintro (q | q)
          · omega
          · exact q
        · exact .inr
      simp only [this]
theorem takeOff_gone {es : List Arc} (a : Int) (v : Int) : ∀ (arcs left : List Int) (s t : Int), left.length = es.length → isWay es arcs s t = true →
    gone es (takeOff a left arcs) v = gone es left v - (if s = v then a else 0) + (if t = v then a else 0)
  | [], left, s, t, _, h => by
    simp only [isWay, decide_eq_true_eq] at h
    subst h
    show gone es left v = _
    omega
  | k :: r, left, s, t, hl, h => by
    simp only [isWay, Bool.and_eq_true, decide_eq_true_eq] at h
    obtain ⟨⟨h1, h2, h3⟩, h4⟩ := h
    show gone es (takeOff a (left.set _ _) r) v = _
    rw [takeOff_gone a v r _ _ t (by rw [List.length_set]; exact hl) h4, gone_set _ v (by omega) hl, h3]
    by_cases e1 : s = v <;> by_cases e2 : (es.getD k.toNat default).dst = v <;> by_cases e3 : t = v <;> simp only [e1, e2, e3, if_true, if_false] <;> omega
def posL (l : List Int) : List Nat := (List.range l.length).filter fun j => decide (0 < l.getD j 0)
theorem mem_posL {l : List Int} {j : Nat} : j ∈ posL l ↔ j < l.length ∧ 0 < l.getD j 0 := by
  unfold posL
  rw [List.mem_filter, List.mem_range, decide_eq_true_eq]
theorem posL_nodup (l : List Int) : (posL l).Nodup := List.nodup_range.filter _
theorem posL_le (l : List Int) : (posL l).length ≤ l.length := by
  have := List.length_filter_le (fun j => decide (0 < l.getD j 0)) (List.range l.length)
  rw [List.length_range] at this
  exact this
theorem posL_less {l m : List Int} {D : List Nat} (hD : D.Nodup) (h1 : ∀ j, j < m.length → 0 < m.getD j 0 → j < l.length ∧ 0 < l.getD j 0) (h2 : ∀ j ∈ D, j < l.length ∧ 0 < l.getD j 0 ∧ ¬ 0 < m.getD j 0) : D.length + (posL m).length ≤ (posL l).length := by
  rw [← List.length_append]
  refine nodup_len (List.nodup_append.2 ⟨hD, posL_nodup m, fun a ha b hb e => ?_⟩) fun j hj => ?_
  · subst e; exact (h2 a ha).2.2 (mem_posL.1 hb).2
  · rcases List.mem_append.1 hj with hj | hj
    · exact mem_posL.2 ⟨(h2 j hj).1, (h2 j hj).2.1⟩
    · have := mem_posL.1 hj
      exact mem_posL.2 (h1 j this.1 this.2)
def usedOf (k : Nat) : List (Int × List Int) → Int
  | [] => 0
  | p :: r => (if (k : Int) ∈ p.2 then p.1 else 0) + usedOf k r
theorem usedOf_snoc (k : Nat) (p : Int × List Int) : ∀ l : List (Int × List Int), usedOf k (l ++ [p]) = usedOf k l + (if (k : Int) ∈ p.2 then p.1 else 0)
  | [] => by simp [usedOf]
  | q :: r => by simp only [List.cons_append, usedOf, usedOf_snoc k p r]; omega
def sumOf : List (Int × List Int) → Int
  | [] => 0
  | p :: r => p.1 + sumOf r
theorem sumOf_snoc (p : Int × List Int) : ∀ l : List (Int × List Int), sumOf (l ++ [p]) = sumOf l + p.1
  | [] => by simp [sumOf]
  | q :: r => by simp only [List.cons_append, sumOf, sumOf_snoc p r]; omega
def Open (es : List Arc) (left : List Int) : Prop := ∃ k : Nat, k < es.length ∧ noLoop es (k : Int) ∧ 0 < left.getD k 0
structure Spl (n s t : Int) (es : List Arc) (f left : List Int) (value : Int) (ways rounds : List (Int × List Int)) : Prop where
  ll : left.length = es.length
  nn : ∀ j, j < es.length → 0 ≤ left.getD j 0
  sum : ∀ j, j < es.length → left.getD j 0 + usedOf j ways + usedOf j rounds = f.getD j 0
  cons : ∀ v, v ≠ s → v ≠ t → gone es left v = 0
  gs : gone es left s = value
  gt : gone es left t = -value
  v0 : 0 ≤ value
  tot : sumOf ways + value = gone es f s
  okw : ∀ p ∈ ways, Pc es p s t
  okr : ∀ p ∈ rounds, ∃ x, Pc es p x x
  cnt : ways.length + rounds.length + (posL left).length ≤ es.length ∨ (value = 0 ∧ ways.length + rounds.length + (posL left).length ≤ es.length + 1 ∧ Open es left)
theorem taken_facts {es : List Arc} {left : List Int} {p : Int × List Int} {s t a : Int} (hp : PieceOk es left p s t) (hl : left.length = es.length) (hn : ∀ j, j < es.length → 0 ≤ left.getD j 0) (ha0 : 0 ≤ a) (ha : a ≤ p.1) :
    (takeOff a left p.2).length = es.length ∧ (∀ j, (takeOff a left p.2).getD j 0 = left.getD j 0 - (if (j : Int) ∈ p.2 then a else 0)) ∧ (∀ j, j < es.length → 0 ≤ (takeOff a left p.2).getD j 0 ∧ (takeOff a left p.2).getD j 0 ≤ left.getD j 0) := by
  have h1 : ∀ j, (takeOff a left p.2).getD j 0 = left.getD j 0 - (if (j : Int) ∈ p.2 then a else 0) := fun j => takeOff_at a p.2 left hp.nd (fun k hk => by rw [hl]; exact hp.kr k hk)
  refine ⟨by rw [takeOff_len]; exact hl, h1, fun j hj => ?_⟩
  rw [h1]
  have := hn j hj
  split
  · rename_i hm
    have := hp.le _ hm
    rw [Int.toNat_natCast] at this
    omega
  · omega
theorem taken_less {es : List Arc} {left : List Int} {p : Int × List Int} {s t : Int} (hp : PieceOk es left p s t) (hl : left.length = es.length) (hn : ∀ j, j < es.length → 0 ≤ left.getD j 0) : (posL (takeOff p.1 left p.2)).length + 1 ≤ (posL left).length := by
  obtain ⟨h1, h2, h3⟩ := taken_facts hp hl hn (by have := hp.a1; omega) (Int.le_refl _)
  obtain ⟨k, hk, e⟩ := hp.zero
  have hkr := hp.kr k hk
  have hkc : ((k.toNat : Nat) : Int) = k := by omega
  have := posL_less (l := left) (m := takeOff p.1 left p.2) (D := [k.toNat]) (by simp) (fun j hj hj2 => by
    rw [h1] at hj
    have := h3 j hj
    exact ⟨by omega, by omega⟩) (fun j hj => by
    have := List.mem_singleton.1 hj
    subst this
    rw [h2, hkc, if_pos hk, e]
    have := hp.a1
    exact ⟨by omega, by omega, by omega⟩)
  simp only [List.length_singleton] at this
  omega
theorem taken_open {es : List Arc} {left : List Int} {p : Int × List Int} {x : Int} (hp : PieceOk es left p x x) (hl : left.length = es.length) (hn : ∀ j, j < es.length → 0 ≤ left.getD j 0) (ho : Open es left) :
    Open es (takeOff p.1 left p.2) ∨ (posL (takeOff p.1 left p.2)).length + 2 ≤ (posL left).length := by
  obtain ⟨h1, h2, h3⟩ := taken_facts hp hl hn (by have := hp.a1; omega) (Int.le_refl _)
  by_cases hc : Open es (takeOff p.1 left p.2)
  · exact .inl hc
  right
  have hall : ∀ k : Nat, k < es.length → noLoop es (k : Int) → ¬ 0 < (takeOff p.1 left p.2).getD k 0 := fun k hk hnl hpos => hc ⟨k, hk, hnl, hpos⟩
  have hone : ∀ y, p.2 = [y] → ¬ noLoop es y := fun y hy => by
    have hw := hp.way
    rw [hy] at hw
    simp only [isWay, Bool.and_eq_true, decide_eq_true_eq] at hw
    unfold noLoop
    rw [hw.1.2.2, hw.2]
    exact fun q => q rfl
  have hlen : p.2.length ≠ 1 := fun hlen => by
    obtain ⟨y, hy⟩ := List.length_eq_one_iff.1 hlen
    obtain ⟨k, hk1, hk2, hk3⟩ := ho
    have hk4 := hall k hk1 hk2
    rw [h2] at hk4
    have hm : (k : Int) ∈ p.2 := by
      refine Classical.byContradiction fun q => hk4 ?_
      rw [if_neg q]; omega
    rw [hy] at hm
    have := List.mem_singleton.1 hm
    exact hone y hy (this ▸ hk2)
  have hlen2 : 2 ≤ p.2.length := by
    have := List.length_pos_iff.2 hp.ne
    omega
  have hnl : ∀ k ∈ p.2, noLoop es k := by
    rcases hp.loop with q | q
    · exact absurd q.1 hlen
    · exact q
  have := posL_less (l := left) (m := takeOff p.1 left p.2) (D := p.2.map Int.toNat) (by
    refine List.pairwise_map.2 (hp.nd.imp_of_mem fun {a b} ha hb hab e => hab ?_)
    have := hp.kr a ha
    have := hp.kr b hb
    omega) (fun j hj hj2 => by
    rw [h1] at hj
    have := h3 j hj
    exact ⟨by omega, by omega⟩) (fun j hj => by
    obtain ⟨k, hk, rfl⟩ := List.mem_map.1 hj
    have hkr := hp.kr k hk
    have hle := hp.le k hk
    have ha1 := hp.a1
    refine ⟨by omega, by omega, hall _ (by omega) ?_⟩
    rw [show ((k.toNat : Nat) : Int) = k by omega]
    exact hnl k hk)
  rw [List.length_map] at this
  omega
theorem taken_mono {es : List Arc} {left : List Int} {p : Int × List Int} {s t a : Int} (hp : PieceOk es left p s t) (hl : left.length = es.length) (hn : ∀ j, j < es.length → 0 ≤ left.getD j 0) (ha0 : 0 ≤ a) (ha : a ≤ p.1) : (posL (takeOff a left p.2)).length ≤ (posL left).length := by
  obtain ⟨h1, h2, h3⟩ := taken_facts hp hl hn ha0 ha
  have := posL_less (l := left) (m := takeOff a left p.2) (D := []) List.nodup_nil (fun j hj hj2 => by
    rw [h1] at hj
    have := h3 j hj
    exact ⟨by omega, by omega⟩) (fun j hj => by cases hj)
  simpa using this
theorem Spl.way_step {n s t : Int} {es : List Arc} {f left : List Int} {value : Int} {ways rounds : List (Int × List Int)} {p : Int × List Int} (h : Spl n s t es f left value ways rounds) (hp : PieceOk es left p s t) (hst : s ≠ t) (hv : 0 < value) {a : Int} (ha : a = min p.1 value) :
    Spl n s t es f (takeOff a left p.2) (value - a) (ways ++ [(a, p.2)]) rounds := by
  have ha1 := hp.a1
  obtain ⟨h1, h2, h3⟩ := taken_facts hp h.ll h.nn (show 0 ≤ a by omega) (show a ≤ p.1 by omega)
  have hg := fun v => takeOff_gone (es := es) a v p.2 left s t h.ll hp.way
  refine ⟨h1, fun j hj => (h3 j hj).1, fun j hj => ?_, fun v v1 v2 => ?_, ?_, ?_, by omega, ?_, fun q hq => ?_, h.okr, ?_⟩
  · have := h.sum j hj
    rw [h2, usedOf_snoc]
    simp only
    omega
  · rw [hg, h.cons v v1 v2, if_neg (Ne.symm v1), if_neg (Ne.symm v2)]; omega
  · rw [hg, h.gs, if_pos rfl, if_neg (Ne.symm hst)]; omega
  · rw [hg, h.gt, if_neg hst, if_pos rfl]; omega
  · have := h.tot
    rw [sumOf_snoc]
    simp only
    omega
  · rcases List.mem_append.1 hq with hq | hq
    · exact h.okw q hq
    · have := List.mem_singleton.1 hq
      subst this
      exact ⟨hp.ne, hp.nd, hp.kr, by show 1 ≤ a; omega, hp.way⟩
  · rw [List.length_append, List.length_singleton]
    rcases h.cnt with c | ⟨c, _⟩
    · by_cases e : a = p.1
      · have := taken_less hp h.ll h.nn
        rw [← e] at this
        left; omega
      · have := taken_mono hp h.ll h.nn (show 0 ≤ a by omega) (show a ≤ p.1 by omega)
        right
        refine ⟨by omega, by omega, ?_⟩
        have hnl : ∀ k ∈ p.2, noLoop es k := by
          rcases hp.loop with q | q
          · exact absurd q.2 hst
          · exact q
        obtain ⟨k, hk⟩ := List.exists_mem_of_ne_nil _ hp.ne
        have hkr := hp.kr k hk
        have hkc : ((k.toNat : Nat) : Int) = k := by omega
        refine ⟨k.toNat, by omega, by rw [hkc]; exact hnl k hk, ?_⟩
        rw [h2, hkc, if_pos hk]
        have := hp.le k hk
        omega
    · omega
theorem Spl.round_step {n s t : Int} {es : List Arc} {f left : List Int} {value : Int} {ways rounds : List (Int × List Int)} {p : Int × List Int} {x : Int} (h : Spl n s t es f left value ways rounds) (hp : PieceOk es left p x x) :
    Spl n s t es f (takeOff p.1 left p.2) value ways (rounds ++ [p]) := by
  have ha1 := hp.a1
  obtain ⟨h1, h2, h3⟩ := taken_facts hp h.ll h.nn (show 0 ≤ p.1 by omega) (Int.le_refl _)
  have hg := fun v => takeOff_gone (es := es) p.1 v p.2 left x x h.ll hp.way
  have hg2 : ∀ v, gone es (takeOff p.1 left p.2) v = gone es left v := fun v => by rw [hg]; omega
  have hless := taken_less hp h.ll h.nn
  refine ⟨h1, fun j hj => (h3 j hj).1, fun j hj => ?_, fun v v1 v2 => by rw [hg2]; exact h.cons v v1 v2, by rw [hg2]; exact h.gs, by rw [hg2]; exact h.gt, h.v0, h.tot, h.okw, fun q hq => ?_, ?_⟩
  · have := h.sum j hj
    rw [h2, usedOf_snoc]
    omega
  · rcases List.mem_append.1 hq with hq | hq
    · exact h.okr q hq
    · have := List.mem_singleton.1 hq
      subst this
      exact ⟨x, hp.toPc⟩
  · rw [List.length_append, List.length_singleton]
    rcases h.cnt with c | ⟨c, d, o⟩
    · left; omega
    · rcases taken_open hp h.ll h.nn o with q | q
      · exact .inr ⟨c, by omega, q⟩
      · left; omega
def Goes (es : List Arc) (left : List Int) (t a : Int) : Prop := ∀ v, v ≠ t → (v = a ∨ ∃ k, k < es.length ∧ 0 < left.getD k 0 ∧ (es.getD k default).dst = v) → ∃ k, k < es.length ∧ 0 < left.getD k 0 ∧ (es.getD k default).src = v
theorem gone_noout {v : Int} : ∀ {es : List Arc} {left : List Int}, left.length = es.length → (∀ j, j < es.length → 0 ≤ left.getD j 0) → (∀ j, j < es.length → (es.getD j default).src = v → left.getD j 0 = 0) →
    gone es left v ≤ 0 ∧ ∀ j, j < es.length → (es.getD j default).dst = v → gone es left v ≤ - left.getD j 0
  | [], [], _, _, _ => ⟨by simp [gone], fun j hj => by simp at hj⟩
  | [], x :: l, h, _, _ => by simp at h
  | a :: r, [], h, _, _ => by simp at h
  | a :: r, x :: l, h, hn, hz => by
    have h0 := hn 0 (by simp)
    have z0 := hz 0 (by simp)
    simp only [List.getD_cons_zero] at h0 z0
    obtain ⟨i1, i2⟩ := gone_noout (es := r) (left := l) (by simpa using h) (fun j hj => by have := hn (j + 1) (by simpa using hj); simpa using this) (fun j hj hs => by have := hz (j + 1) (by simpa using hj) (by simpa using hs); simpa using this)
    simp only [gone]
    refine ⟨?_, fun j hj hd => ?_⟩
    · by_cases e1 : a.src = v <;> by_cases e2 : a.dst = v <;> simp only [e1, e2, if_true, if_false] <;> (try have := z0 e1) <;> omega
    · cases j with
      | zero =>
        simp only [List.getD_cons_zero] at hd ⊢
        by_cases e1 : a.src = v <;> simp only [e1, hd, if_true, if_false] <;> (try have := z0 e1) <;> omega
      | succ j =>
        simp only [List.getD_cons_succ] at hd ⊢
        have := i2 j (by simpa using hj) hd
        by_cases e1 : a.src = v <;> by_cases e2 : a.dst = v <;> simp only [e1, e2, if_true, if_false] <;> (try have := z0 e1) <;> omega
theorem goes_out {es : List Arc} {left : List Int} {v : Int} (hl : left.length = es.length) (hn : ∀ j, j < es.length → 0 ≤ left.getD j 0) (h : 0 < gone es left v ∨ (0 ≤ gone es left v ∧ ∃ k, k < es.length ∧ 0 < left.getD k 0 ∧ (es.getD k default).dst = v)) :
    ∃ k, k < es.length ∧ 0 < left.getD k 0 ∧ (es.getD k default).src = v := by
  refine Classical.byContradiction fun hc => ?_
  obtain ⟨i1, i2⟩ := gone_noout (v := v) hl hn (fun j hj hs => by
    have := hn j hj
    refine Classical.byContradiction fun q => hc ⟨j, hj, by omega, hs⟩)
  rcases h with h | ⟨h, k, k1, k2, k3⟩
  · omega
  · have := i2 k k1 k3; omega
theorem Spl.goes {n s t : Int} {es : List Arc} {f left : List Int} {value : Int} {ways rounds : List (Int × List Int)} (h : Spl n s t es f left value ways rounds) (hv : 0 < value) : Goes es left t s := fun v hvt hc => by
  have hgs := h.gs
  by_cases e : v = s
  · subst e; exact goes_out h.ll h.nn (.inl (by omega))
  · rcases hc with hc | hc
    · exact absurd hc e
    · exact goes_out h.ll h.nn (.inr ⟨by rw [h.cons v e hvt]; exact Int.le_refl _, hc⟩)
theorem Spl.goes2 {n s t : Int} {es : List Arc} {f left : List Int} {ways rounds : List (Int × List Int)} (h : Spl n s t es f left 0 ways rounds) {k : Nat} (hk : k < es.length) (hp : 0 < left.getD k 0) : Goes es left (-1) (es.getD k default).src := fun v hvt hc => by
  have hz : gone es left v = 0 := by
    by_cases e : v = s
    · rw [e]; exact h.gs
    · by_cases e2 : v = t
      · rw [e2, h.gt]; rfl
      · exact h.cons v e e2
  rcases hc with hc | hc
  · exact ⟨k, hk, hp, hc.symm⟩
  · exact goes_out h.ll h.nn (.inr ⟨by omega, hc⟩)
theorem gone_total {n : Int} (h12 : n ≤ 12) : ∀ {es : List Arc} {f : List Int}, (∀ a ∈ es, 0 ≤ a.src ∧ a.src < n ∧ 0 ≤ a.dst ∧ a.dst < n) → nodeSum (gone es f) 0 12 = 0
  | [], _, _ => nodeSum_zero fun j _ _ => by simp [gone]
  | a :: r, [], _ => nodeSum_zero fun j _ _ => by simp [gone]
  | a :: r, x :: f, h => by
    obtain ⟨a1, a2, a3, a4⟩ := h a List.mem_cons_self
    have ih := gone_total h12 (es := r) (f := f) (fun b hb => h b (List.mem_cons_of_mem _ hb))
    have e1 : nodeSum (fun v => if a.src = v then x else 0) 0 12 = x := by
      rw [nodeSum_one (v := a.src) (by omega) (by omega) (fun j _ _ hj => if_neg (Ne.symm hj)), if_pos rfl]
    have e2 : nodeSum (fun v => if a.dst = v then -x else 0) 0 12 = -x := by
      rw [nodeSum_one (v := a.dst) (by omega) (by omega) (fun j _ _ hj => if_neg (Ne.symm hj)), if_pos rfl]
    have e3 : nodeSum (gone (a :: r) (x :: f)) 0 12 = nodeSum (fun v => ((if a.src = v then x else 0) + (if a.dst = v then -x else 0)) + gone r f v) 0 12 := by
      refine nodeSum_congr fun j _ _ => ?_
      simp only [gone]
      by_cases q1 : a.src = (j : Int) <;> by_cases q2 : a.dst = (j : Int) <;> simp only [q1, q2, if_true, if_false] <;> omega
    rw [e3, nodeSum_add, nodeSum_add, e1, e2, ih]
    omega
theorem gone_ends {n s t : Int} {es : List Arc} {f : List Int} (h : FlOk n s t es f) : (∀ v, v ≠ s → v ≠ t → gone es f v = 0) ∧ gone es f t = - gone es f s := by
  have hok := h.net
  have hne := hok.ne
  have h12 := hok.n2
  have harc : ∀ a ∈ es, 0 ≤ a.src ∧ a.src < n ∧ 0 ≤ a.dst ∧ a.dst < n := fun a ha => by obtain ⟨q1, q2, q3, q4, _⟩ := hok.arc a ha; exact ⟨q1, q2, q3, q4⟩
  have hneg : ∀ v, v < 0 → gone es f v = 0 := by
    intro v hv
    have : ∀ {es : List Arc} {f : List Int}, (∀ a ∈ es, 0 ≤ a.src ∧ a.src < n ∧ 0 ≤ a.dst ∧ a.dst < n) → gone es f v = 0 := by
      intro es
      induction es with
      | nil => intro f _; simp [gone]
      | cons a r ih =>
        intro f h
        cases f with
        | nil => simp [gone]
        | cons x f =>
          obtain ⟨a1, a2, a3, a4⟩ := h a List.mem_cons_self
          simp only [gone]
          rw [if_neg (by omega), if_neg (by omega), ih (fun b hb => h b (List.mem_cons_of_mem _ hb))]
          rfl
    exact this harc
  have hcons : ∀ v, v ≠ s → v ≠ t → gone es f v = 0 := fun v v1 v2 => by
    by_cases e : v < 0
    · exact hneg v e
    · by_cases e2 : n ≤ v
      · exact gone_far harc e2
      · have := h.kept v.toNat (by omega) (by omega)
        rw [Int.toNat_of_nonneg (by omega)] at this
        exact this
  refine ⟨hcons, ?_⟩
  have htot := gone_total h12 (f := f) harc
  have e3 : nodeSum (gone es f) 0 12 = nodeSum (fun v => (if s = v then gone es f s else 0) + (if t = v then gone es f t else 0)) 0 12 := by
    refine nodeSum_congr fun j _ _ => ?_
    by_cases q1 : s = (j : Int)
    · rw [if_pos q1, if_neg (by omega), q1]; omega
    · rw [if_neg q1]
      by_cases q2 : t = (j : Int)
      · rw [if_pos q2, q2]; omega
      · rw [if_neg q2]; exact hcons _ (Ne.symm q1) (Ne.symm q2)
  have hs0 := hok.s0
  have hs1 := hok.s1
  have ht0 := hok.t0
  have ht1 := hok.t1
  rw [e3, nodeSum_add, nodeSum_one (v := s) (by omega) (by omega) (fun j _ _ hj => if_neg (Ne.symm hj)), nodeSum_one (v := t) (by omega) (by omega) (fun j _ _ hj => if_neg (Ne.symm hj)), if_pos rfl, if_pos rfl] at htot
  omega
theorem Spl.start {n s t : Int} {es : List Arc} {f : List Int} (h : FlOk n s t es f) (h0 : 0 ≤ gone es f s) : Spl n s t es f f (gone es f s) [] [] where
  ll := h.fin.len
  nn j hj := (h.fin.at_ j hj).1
  sum j hj := by simp [usedOf]
  cons := (gone_ends h).1
  gs := rfl
  gt := (gone_ends h).2
  v0 := h0
  tot := by simp [sumOf]
  okw p hp := by cases hp
  okr p hp := by cases hp
  cnt := .inl (by have := posL_le f; have := h.fin.len; simp; omega)
theorem sum_nonneg {es : List Arc} {s t : Int} : ∀ {l : List (Int × List Int)}, (∀ p ∈ l, Pc es p s t) → 0 ≤ sumOf l
  | [], _ => by simp [sumOf]
  | p :: r, h => by
    have h1 := (h p List.mem_cons_self).a1
    have h2 := sum_nonneg (fun q hq => h q (List.mem_cons_of_mem _ hq))
    simp only [sumOf]
    omega
def SplitOk (n s t : Int) (es : List Arc) (f : List Int) (ways rounds : List (Int × List Int)) (e : Int) : Prop :=
  (flowErr n s t es f ≠ 0 ∧ e = flowErr n s t es f ∧ ways = [] ∧ rounds = []) ∨ (flowErr n s t es f = 0 ∧ gone es f s < 0 ∧ e = 9 ∧ ways = [] ∧ rounds = []) ∨
  (flowErr n s t es f = 0 ∧ 0 ≤ gone es f s ∧ e = 0 ∧ (∀ p ∈ ways, Pc es p s t) ∧ (∀ p ∈ rounds, ∃ x, Pc es p x x) ∧ (∀ j, j < es.length → usedOf j ways + usedOf j rounds = f.getD j 0) ∧ sumOf ways = gone es f s ∧ ways.length + rounds.length ≤ es.length)
theorem Spl.end_ {n s t : Int} {es : List Arc} {f left : List Int} {ways rounds : List (Int × List Int)} (h : Spl n s t es f left 0 ways rounds) (hE : flowErr n s t es f = 0) (hz : ∀ j, j < es.length → left.getD j 0 = 0) : SplitOk n s t es f ways rounds 0 := by
  refine .inr (.inr ⟨hE, ?_, rfl, h.okw, h.okr, fun j hj => ?_, ?_, ?_⟩)
  · have := h.tot
    have hs : ∀ l : List (Int × List Int), (∀ p ∈ l, Pc es p s t) → 0 ≤ sumOf l := by
      intro l
      induction l with
      | nil => intro _; simp [sumOf]
      | cons p r ih =>
        intro hl
        have := (hl p List.mem_cons_self).a1
        have := ih (fun q hq => hl q (List.mem_cons_of_mem _ hq))
        simp only [sumOf]
        omega
    have := hs ways h.okw
    omega
  · have := h.sum j hj
    have := hz j hj
    omega
  · have := h.tot; omega
  · rcases h.cnt with c | ⟨_, _, k, k1, _, k3⟩
    · omega
    · have := hz k k1; omega
def srcIs (c : Int) (a : Arc) : Bool := decide (a.src = c)
theorem idxOf_le {α : Type} {p : α → Bool} {d : α} {l : List α} {K : Nat} (hK : K < l.length) (hp : p (l.getD K d) = true) : 0 ≤ idxOf p l ∧ idxOf p l ≤ (K : Int) := by
  induction K using Nat.strongRecOn with
  | ind K ih =>
    by_cases h : ∃ j, j < K ∧ p (l.getD j d) = true
    · obtain ⟨j, h1, h2⟩ := h
      have := ih j h1 (by omega) h2
      omega
    · have := idxOf_at (p := p) (d := d) (l := l) (i := K) (fun j hj => by
        cases hh : p (l.getD j d)
        · rfl
        · exact absurd ⟨j, hj, hh⟩ h) hK hp
      omega
theorem nodup_int {W : List Int} {n : Int} (hn : W.Nodup) (hr : ∀ v ∈ W, 0 ≤ v ∧ v < n) : W.length ≤ n.toNat := by
  have := nodup_len (l := W) (m := (List.range n.toNat).map fun (v : Nat) => (v : Int)) hn (fun x hx => by
    have := hr x hx
    exact List.mem_map.2 ⟨x.toNat, List.mem_range.2 (by omega), by omega⟩)
  simpa using this
theorem piece_round {es : List Arc} {left B W : List Int} {k y v m : Int} (hC : Chn es left (B ++ [k]) (W ++ [y])) (hv : findD y (seenOf W) = some v) (hm : AmOk left ((B ++ [k]).drop v.toNat) m) : ∃ x, PieceOk es left (m, (B ++ [k]).drop v.toNat) x x := by
  obtain ⟨h0, h1, h2⟩ := seen_some hv
  have hwl := hC.wl
  simp only [List.length_append, List.length_singleton] at hwl
  have e1 : (W ++ [y]).getD v.toNat 0 = y := by rw [snoc_at, if_pos (by omega)]; exact h2
  have e2 : (W ++ [y]).getD (B ++ [k]).length 0 = y := by rw [snoc_at, List.length_append, List.length_singleton, if_neg (by omega), if_pos (by omega)]
  have := hC.piece (i := v.toNat) (by simp only [List.length_append, List.length_singleton]; omega) hm (.inr (e1.trans e2.symm))
  rw [e1, e2] at this
  exact ⟨y, this⟩
theorem piece_way {es : List Arc} {left B W : List Int} {a t m : Int} (hC : Chn es left B W) (hW : W.Nodup) (ha : W.getD 0 0 = a) (ht : W.getD B.length 0 = t) (hB : 0 < B.length) (hm : AmOk left B m) : PieceOk es left (m, B) a t := by
  have := hC.piece (i := 0) hB (by simpa using hm) (.inl fun j hj => nodup_at hW hj (by rw [hC.wl]; omega))
  rw [ha, ht] at this
  simpa using this
theorem way_end {es : List Arc} : ∀ {B : List Int} {x y : Int}, B ≠ [] → isWay es B x y = true → ∃ k ∈ B, 0 ≤ k ∧ k < es.length ∧ (es.getD k.toNat default).dst = y
  | [], _, _, h, _ => absurd rfl h
  | [k], x, y, _, h => by
    simp only [isWay, Bool.and_eq_true, decide_eq_true_eq] at h
    exact ⟨k, List.mem_cons_self, h.1.1, h.1.2.1, h.2⟩
  | k :: q :: r, x, y, _, h => by
    rw [isWay, Bool.and_eq_true] at h
    obtain ⟨j, h1, h2⟩ := way_end (B := q :: r) (by simp) h.2
    exact ⟨j, List.mem_cons_of_mem _ h1, h2⟩
def InB (left : List Int) : Prop := ∀ j, 0 ≤ left.getD j 0 ∧ left.getD j 0 ≤ 10000
theorem InB.take {es : List Arc} {left : List Int} {p : Int × List Int} {s t a : Int} (h : InB left) (hp : PieceOk es left p s t) (hl : left.length = es.length) (ha0 : 0 ≤ a) (ha : a ≤ p.1) : InB (takeOff a left p.2) := fun j => by
  obtain ⟨h1, h2, h3⟩ := taken_facts hp hl (fun j _ => (h j).1) ha0 ha
  by_cases hj : j < es.length
  · have := h3 j hj
    have := h j
    omega
  · rw [getD_ge _ _ _ (by omega)]; omega
theorem PieceOk.lt {es : List Arc} {left : List Int} {p : Int × List Int} {s t : Int} (h : PieceOk es left p s t) (hl : left.length = es.length) : ∀ k ∈ p.2, 0 ≤ k ∧ k < left.length ∧ p.1 ≤ left.getD k.toNat 0 := fun k hk => by
  have := h.kr k hk
  exact ⟨this.1, by omega, h.le k hk⟩
theorem PieceOk.many {es : List Arc} {left : List Int} {p : Int × List Int} {s t : Int} (h : PieceOk es left p s t) : p.2.length ≤ es.length := by
  have := nodup_int (n := (es.length : Int)) h.nd h.kr
  omega
theorem PieceOk.top {es : List Arc} {left : List Int} {p : Int × List Int} {s t : Int} (h : PieceOk es left p s t) (hb : InB left) : p.1 ≤ 10000 := by
  obtain ⟨k, _, e⟩ := h.zero
  have := hb k.toNat
  omega
theorem takeOff_step {a : Int} {left arcs : List Int} {i : Nat} (hi : i < arcs.length) : takeOff a left (arcs.take (i + 1)) = (takeOff a left (arcs.take i)).set (arcs.getD i 0).toNat ((takeOff a left (arcs.take i)).getD (arcs.getD i 0).toNat 0 - a) := by
  rw [take_getD arcs 0 i hi, takeOff, takeOff, List.foldl_append]; rfl
theorem takeOff_now {a : Int} {left arcs : List Int} {i : Nat} (hi : i < arcs.length) (hn : arcs.Nodup) (hr : ∀ k ∈ arcs, 0 ≤ k) : (takeOff a left (arcs.take i)).getD (arcs.getD i 0).toNat 0 = left.getD (arcs.getD i 0).toNat 0 := by
  refine takeOff_other a _ _ fun k hk e => ?_
  obtain ⟨j, hj, e2⟩ := mem_getD 0 hk
  rw [List.length_take] at hj
  rw [take_at (by omega)] at e2
  have h1 := hr k (List.mem_of_mem_take hk)
  have h2 := hr _ (getD_mem (d := 0) hi)
  exact nodup_at hn (show j < i by omega) hi (by omega)
def stepK (es : List Arc) (left : List Int) (c : Int) : Option Nat := (List.range es.length).find? fun k => decide (0 < left.getD k 0) && decide ((es.getD k default).src = c)
def minAm (left arcs : List Int) : Int := minOf (arcs.map fun k => left.getD k.toNat 0)
def pieceF (es : List Arc) (left : List Int) (t : Int) : Nat → List Int → List Int → Int → (Int × List Int) × Bool
  | 0, B, _, _ => ((0, B), false)
  | m + 1, B, W, c => if c = t then ((minAm left B, B), false) else match stepK es left c with
    | none => ((0, B), false)
    | some k => match findD (es.getD k default).dst (seenOf W) with
      | some v => ((minAm left ((B ++ [(k : Int)]).drop v.toNat), (B ++ [(k : Int)]).drop v.toNat), true)
      | none => pieceF es left t m (B ++ [(k : Int)]) (W ++ [(es.getD k default).dst]) (es.getD k default).dst
theorem minOf_ok : ∀ {l : List Int}, l ≠ [] → minOf l ∈ l ∧ ∀ x ∈ l, minOf l ≤ x
  | [], h => absurd rfl h
  | x :: r, _ => by
    have key : ∀ (r : List Int) (m : Int), (r.foldl min m = m ∨ r.foldl min m ∈ r) ∧ r.foldl min m ≤ m ∧ ∀ y ∈ r, r.foldl min m ≤ y := by
      intro r
      induction r with
      | nil => intro m; exact ⟨.inl rfl, Int.le_refl _, fun y hy => by cases hy⟩
      | cons z r ih =>
        intro m
        obtain ⟨h1, h2, h3⟩ := ih (min m z)
        refine ⟨?_, ?_, fun y hy => ?_⟩
        · show (r.foldl min (min m z) = m) ∨ r.foldl min (min m z) ∈ z :: r
          rcases h1 with h1 | h1
          · rcases Int.le_total m z with q | q
            · left; rw [h1]; omega
            · right; rw [h1, show min m z = z by omega]; exact List.mem_cons_self
          · right; exact List.mem_cons_of_mem _ h1
        · show r.foldl min (min m z) ≤ m
          omega
        · show r.foldl min (min m z) ≤ y
          rcases List.mem_cons.1 hy with rfl | hy
          · omega
          · exact h3 y hy
    obtain ⟨h1, h2, h3⟩ := key r x
    refine ⟨?_, fun y hy => ?_⟩
    · show r.foldl min x ∈ x :: r
      rcases h1 with h1 | h1
      · rw [h1]; exact List.mem_cons_self
      · exact List.mem_cons_of_mem _ h1
    · show r.foldl min x ≤ y
      rcases List.mem_cons.1 hy with rfl | hy
      · exact h2
      · exact h3 y hy
theorem minAm_ok {left arcs : List Int} (h : arcs ≠ []) : AmOk left arcs (minAm left arcs) := by
  obtain ⟨h1, h2⟩ := minOf_ok (l := arcs.map fun k => left.getD k.toNat 0) (by simpa using h)
  obtain ⟨k, hk, e⟩ := List.mem_map.1 h1
  exact ⟨⟨k, hk, e⟩, fun k hk => h2 _ (List.mem_map.2 ⟨k, hk, rfl⟩)⟩
theorem AmOk.uniq {left arcs : List Int} {a b : Int} (h : AmOk left arcs a) (k : AmOk left arcs b) : a = b := by
  obtain ⟨⟨x, hx, e1⟩, h2⟩ := h
  obtain ⟨⟨y, hy, e2⟩, k2⟩ := k
  have := h2 y hy
  have := k2 x hx
  omega
theorem AmOk.is {left arcs : List Int} {a : Int} (h : AmOk left arcs a) : a = minAm left arcs := by
  obtain ⟨⟨x, hx, _⟩, _⟩ := id h
  exact h.uniq (minAm_ok (fun e => by rw [e] at hx; cases hx))
theorem stepK_some {es : List Arc} {left : List Int} {c : Int} {k : Nat} (h : stepK es left c = some k) : k < es.length ∧ 0 < left.getD k 0 ∧ (es.getD k default).src = c := by
  unfold stepK at h
  have h1 := List.find?_some h
  have h2 := List.mem_range.1 (List.mem_of_find?_eq_some h)
  simp only [Bool.and_eq_true, decide_eq_true_eq] at h1
  exact ⟨h2, h1⟩
theorem stepK_is {es : List Arc} {left : List Int} {c : Int} {k : Nat} (hk : k < es.length) (h1 : 0 < left.getD k 0) (h2 : (es.getD k default).src = c) (hmin : ∀ j, j < k → ¬ (0 < left.getD j 0 ∧ (es.getD j default).src = c)) : stepK es left c = some k := by
  unfold stepK
  rcases find_range (fun k => decide (0 < left.getD k 0) && decide ((es.getD k default).src = c)) es.length with ⟨j, e, q1, q2, q3⟩ | ⟨_, q⟩
  · rw [e]
    simp only [Bool.and_eq_true, decide_eq_true_eq] at q2
    congr 1
    rcases Nat.lt_trichotomy j k with h | h | h
    · exact absurd q2 (hmin j h)
    · exact h
    · have := q3 k h
      simp only [Bool.and_eq_false_iff, decide_eq_false_iff_not] at this
      rcases this with t | t
      · exact absurd h1 t
      · exact absurd h2 t
  · have := q k hk
    simp only [Bool.and_eq_false_iff, decide_eq_false_iff_not] at this
    rcases this with t | t
    · exact absurd h1 t
    · exact absurd h2 t
theorem Chn.out {es : List Arc} {left B W : List Int} {a c t : Int} (hC : Chn es left B W) (hct : W.getD B.length 0 = c) (hw0 : W.getD 0 0 = a) (hc : c ≠ t) (hg : Goes es left t a) : ∃ K, K < es.length ∧ 0 < left.getD K 0 ∧ (es.getD K default).src = c := by
  refine hg c hc ?_
  by_cases hB : B.length = 0
  · left; rw [← hct, hB]; exact hw0
  · right
    obtain ⟨q1, q2, q3, q4, q5⟩ := hC.st (B.length - 1) (by omega)
    exact ⟨(B.getD (B.length - 1) 0).toNat, by omega, q5, by rw [q4, show B.length - 1 + 1 = B.length by omega]; exact hct⟩
theorem pieceF_go {n : Int} {es : List Arc} {left : List Int} {a t : Int} (hG : GOk n es 0) (hat : a ≠ t) (hg : Goes es left t a) : ∀ (m : Nat) (B W : List Int) (c : Int), Chn es left B W → W.Nodup → W.getD B.length 0 = c → W.getD 0 0 = a → (∀ v ∈ W, 0 ≤ v ∧ v < n) → n.toNat + 1 ≤ m + B.length →
    ((pieceF es left t m B W c).2 = true ∧ ∃ x, PieceOk es left (pieceF es left t m B W c).1 x x) ∨ ((pieceF es left t m B W c).2 = false ∧ PieceOk es left (pieceF es left t m B W c).1 a t)
  | 0, B, W, c, hC, hW, _, _, hr, hm => by
    have := nodup_int hW hr
    have := hC.wl
    omega
  | m + 1, B, W, c, hC, hW, hct, hw0, hr, hm => by
    unfold pieceF
    by_cases hc : c = t
    · rw [if_pos hc]
      have hBp : 0 < B.length := by
        rcases Nat.eq_zero_or_pos B.length with q | q
        · rw [q] at hct; omega
        · exact q
      exact .inr ⟨rfl, piece_way hC hW hw0 (hct.trans hc) hBp (minAm_ok (List.length_pos_iff.1 hBp))⟩
    · rw [if_neg hc]
      obtain ⟨K, hK1, hK2, hK3⟩ := hC.out hct hw0 hc hg
      cases hs : stepK es left c with
      | none =>
        exfalso
        unfold stepK at hs
        have := List.find?_eq_none.1 hs K (List.mem_range.2 hK1)
        simp only [Bool.and_eq_true, decide_eq_true_eq] at this
        exact this ⟨hK2, hK3⟩
      | some k =>
        obtain ⟨k1, k2, k3⟩ := stepK_some hs
        simp only
        obtain ⟨a1, a2, a3, a4, a5, a6⟩ := hG.at_ k1
        have hC1 := hC.snoc (k := (k : Int)) hW (by omega) (by omega) (by rw [Int.toNat_natCast, k3]; exact hct.symm) (by rw [Int.toNat_natCast]; exact k2)
        rw [Int.toNat_natCast] at hC1
        cases hf : findD (es.getD k default).dst (seenOf W) with
        | some v =>
          have hs := seen_some hf
          have hwl := hC.wl
          exact .inl ⟨rfl, piece_round hC1 hf (minAm_ok (fun e => by
            have := congrArg List.length e
            simp only [List.length_drop, List.length_append, List.length_singleton, List.length_nil] at this
            omega))⟩
        | none =>
          have hyW := seen_none hf
          have hwl := hC.wl
          exact pieceF_go hG hat hg m _ _ _ hC1 (List.nodup_append.2 ⟨hW, by simp, fun x hx y hy e => hyW (by rw [← List.mem_singleton.1 hy, ← e]; exact hx)⟩)
            (by rw [snoc_at, List.length_append, List.length_singleton, if_neg (by omega), if_pos (by omega)]) (by rw [snoc_at, if_pos (by omega)]; exact hw0)
            (fun q hq => by
              rcases List.mem_append.1 hq with hq | hq
              · exact hr q hq
              · rw [List.mem_singleton.1 hq]; exact ⟨a3, a4⟩) (by rw [List.length_append, List.length_singleton]; omega)
theorem pieceF_ok {n : Int} {es : List Arc} {left : List Int} {a t : Int} (hG : GOk n es 0) (h0 : 0 ≤ a) (h1 : a < n) (hat : a ≠ t) (hg : Goes es left t a) :
    ((pieceF es left t (n.toNat + 1) [] [a] a).2 = true ∧ ∃ x, PieceOk es left (pieceF es left t (n.toNat + 1) [] [a] a).1 x x) ∨ ((pieceF es left t (n.toNat + 1) [] [a] a).2 = false ∧ PieceOk es left (pieceF es left t (n.toNat + 1) [] [a] a).1 a t) :=
  pieceF_go hG hat hg _ _ _ _ (Chn.start a) (by simp) rfl rfl (fun v hv => by rw [List.mem_singleton.1 hv]; exact ⟨h0, h1⟩) (by simp)
theorem idxOf_before {α : Type} {p : α → Bool} {d : α} {l : List α} {j : Nat} (h : (j : Int) < idxOf p l) : p (l.getD j d) = false := by
  cases hh : p (l.getD j d)
  · rfl
  · have h1 := (idxOf_ge (p := p) (l := l)).2
    have := idxOf_le (d := d) (show j < l.length by omega) hh
    omega
theorem pieceF_end {es : List Arc} {left B W : List Int} {t c : Int} {m : Nat} (hm : 1 ≤ m) (hc : c = t) : pieceF es left t m B W c = ((minAm left B, B), false) := by
  obtain ⟨q, rfl⟩ : ∃ q, m = q + 1 := ⟨m - 1, by omega⟩
  unfold pieceF
  rw [if_pos hc]
theorem pieceF_round {es : List Arc} {left B W : List Int} {t c v k : Int} {m : Nat} (hm : 1 ≤ m) (hc : c ≠ t) (hk : 0 ≤ k) (hs : stepK es left c = some k.toNat) (hf : findD (es.getD k.toNat default).dst (seenOf W) = some v) : pieceF es left t m B W c = ((minAm left ((B ++ [k]).drop v.toNat), (B ++ [k]).drop v.toNat), true) := by
  obtain ⟨q, rfl⟩ : ∃ q, m = q + 1 := ⟨m - 1, by omega⟩
  unfold pieceF
  rw [if_neg hc, hs]
  simp only [hf, Int.toNat_of_nonneg hk]
theorem pieceF_next {es : List Arc} {left B W : List Int} {t c k : Int} {m m' : Nat} (hm : m = m' + 1) (hc : c ≠ t) (hk : 0 ≤ k) (hs : stepK es left c = some k.toNat) (hf : findD (es.getD k.toNat default).dst (seenOf W) = none) : pieceF es left t m B W c = pieceF es left t m' (B ++ [k]) (W ++ [(es.getD k.toNat default).dst]) (es.getD k.toNat default).dst := by
  subst hm
  rw [pieceF, if_neg hc, hs]
  simp only [hf, Int.toNat_of_nonneg hk]
end Go.Ab
