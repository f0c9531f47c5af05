/- Of a flow that falls into pieces: the plain laws. -/
import Derived.Test.YtcmaffldmodacaaPlB
import Derived.Test.YtcmaffldmodacaaPlA
import Derived.Test.YtcmaffldmodacaaAbC
import Derived.Test.YtcmaffldmodacaaPlA
namespace Go.Ab
/-! ### A chain of arcs and its nodes -/
structure Chn (es : List Arc) (left : List Int) (B W : List Int) : Prop where
  wl : W.length = B.length + 1
  nd : (W.take B.length).Nodup
  st : ∀ j, j < B.length → 0 ≤ B.getD j 0 ∧ B.getD j 0 < es.length ∧ (es.getD (B.getD j 0).toNat default).src = W.getD j 0 ∧ (es.getD (B.getD j 0).toNat default).dst = W.getD (j + 1) 0 ∧ 0 < left.getD (B.getD j 0).toNat 0
theorem Chn.way {es : List Arc} {left B W : List Int} (h : Chn es left B W) : ∀ m i, i + m = B.length → isWay es (B.drop i) (W.getD i 0) (W.getD B.length 0) = true
  | 0, i, hi => by
    rw [List.drop_of_length_le (by omega), show i = B.length by omega]
    simp [isWay]
  | m + 1, i, hi => by
    have hl : i < B.length := by omega
    obtain ⟨q1, q2, q3, q4, _⟩ := h.st i hl
    rw [isWay_drop hl, q4, h.way m (i + 1) (by omega), Bool.and_true]
    exact decide_eq_true ⟨q1, q2, q3⟩
/-- A piece of what is left. -/
structure Pc (es : List Arc) (p : Int × List Int) (s t : Int) : Prop where
  ne : p.2 ≠ []
  nd : p.2.Nodup
  kr : ∀ k ∈ p.2, 0 ≤ k ∧ k < es.length
  a1 : 1 ≤ p.1
  way : isWay es p.2 s t = true
def noLoop (es : List Arc) (k : Int) : Prop := (es.getD k.toNat default).src ≠ (es.getD k.toNat default).dst
structure PieceOk (es : List Arc) (left : List Int) (p : Int × List Int) (s t : Int) : Prop extends Pc es p s t where
  le : ∀ k ∈ p.2, p.1 ≤ left.getD k.toNat 0
  zero : ∃ k ∈ p.2, left.getD k.toNat 0 = p.1
  loop : (p.2.length = 1 ∧ s = t) ∨ ∀ k ∈ p.2, noLoop es k
/-- An amount that all the arcs have, and one of them just that. -/
def AmOk (left arcs : List Int) (m : Int) : Prop := (∃ k ∈ arcs, left.getD k.toNat 0 = m) ∧ ∀ k ∈ arcs, m ≤ left.getD k.toNat 0
theorem Chn.start {es : List Arc} {left : List Int} (x : Int) : Chn es left [] [x] := ⟨rfl, by simp, fun j hj => by simp at hj⟩
theorem snoc_at (l : List Int) (x : Int) (j : Nat) : (l ++ [x]).getD j 0 = if j < l.length then l.getD j 0 else if j = l.length then x else 0 := by
  simp only [List.getD_eq_getElem?_getD, List.getElem?_append]
  split
  · rfl
  · rename_i h
    by_cases e : j = l.length
    · subst e; simp
    · rw [if_neg e, List.getElem?_eq_none (by simp; omega)]; rfl
theorem Chn.snoc {es : List Arc} {left B W : List Int} {k : Int} (h : Chn es left B W) (hW : W.Nodup) (k0 : 0 ≤ k) (k1 : k < es.length) (hs : (es.getD k.toNat default).src = W.getD B.length 0) (hp : 0 < left.getD k.toNat 0) :
    Chn es left (B ++ [k]) (W ++ [(es.getD k.toNat default).dst]) := by
  have hwl := h.wl
  refine ⟨by simp [hwl], ?_, fun j hj => ?_⟩
  · rw [List.length_append, List.length_singleton, ← hwl, List.take_left]; exact hW
  · rw [List.length_append, List.length_singleton] at hj
    rw [snoc_at, snoc_at, snoc_at]
    by_cases e : j < B.length
    · rw [if_pos e, if_pos (by omega), if_pos (by omega)]; exact h.st j e
    · have e2 : j = B.length := by omega
      subst e2
      rw [if_neg (by omega), if_pos rfl, if_pos (by omega), if_neg (by omega), if_pos (by omega)]
      exact ⟨k0, k1, hs, rfl, hp⟩

/-! ### What has been seen: a node, and how many arcs there were -/
/-! ### What is left, when a piece is taken off -/
def takeOff (a : Int) (left arcs : List Int) : List Int := arcs.foldl (fun l k => l.set k.toNat (l.getD k.toNat 0 - a)) left
theorem takeOff_len (a : Int) : ∀ (arcs left : List Int), (takeOff a left arcs).length = left.length
  | [], _ => rfl
  | k :: r, left => by
    show (takeOff a (left.set _ _) r).length = _
    rw [takeOff_len a r, List.length_set]
theorem takeOff_other (a : Int) {j : Nat} : ∀ (arcs left : List Int), (∀ k ∈ arcs, k.toNat ≠ j) → (takeOff a left arcs).getD j 0 = left.getD j 0
  | [], _, _ => rfl
  | k :: r, left, h => by
    show (takeOff a (left.set _ _) r).getD j 0 = _
    rw [takeOff_other a r _ (fun q hq => h q (List.mem_cons_of_mem _ hq)), getD_set_ne _ _ _ _ _ (h k List.mem_cons_self)]
theorem takeOff_at (a : Int) {j : Nat} : ∀ (arcs left : List Int), arcs.Nodup → (∀ k ∈ arcs, 0 ≤ k ∧ k < left.length) → (takeOff a left arcs).getD j 0 = left.getD j 0 - (if (j : Int) ∈ arcs then a else 0)
  | [], left, _, _ => by simp [takeOff]
  | k :: r, left, hn, hr => by
    have hn' := List.nodup_cons.1 hn
    have hk := hr k List.mem_cons_self
    show (takeOff a (left.set _ _) r).getD j 0 = _
    by_cases e : k.toNat = j
    · have hjr : (j : Int) ∉ r := by rw [show (j : Int) = k by omega]; exact hn'.1
      rw [takeOff_other a r _ (fun q hq => by
        intro e2
        have := hr q (List.mem_cons_of_mem _ hq)
        exact hn'.1 (by rw [show k = q by omega]; exact hq)), e, getD_set_self _ _ _ _ (by omega), if_pos (by rw [show (j : Int) = k by omega]; exact List.mem_cons_self)]
    · rw [takeOff_at a r _ hn'.2 (fun q hq => by rw [List.length_set]; exact hr q (List.mem_cons_of_mem _ hq)), getD_set_ne _ _ _ _ _ e]
      have : ((j : Int) ∈ k :: r) ↔ (j : Int) ∈ r := by
        rw [List.mem_cons]
        constructor
        · rintro (q | q)
          · omega
          · exact q
        · exact .inr
      simp only [this]
theorem takeOff_gone {es : List Arc} (a : Int) (v : Int) : ∀ (arcs left : List Int) (s t : Int), left.length = es.length → isWay es arcs s t = true →
    gone es (takeOff a left arcs) v = gone es left v - (if s = v then a else 0) + (if t = v then a else 0)
  | [], left, s, t, _, h => by
    simp only [isWay, decide_eq_true_eq] at h
    subst h
    show gone es left v = _
    omega
  | k :: r, left, s, t, hl, h => by
    simp only [isWay, Bool.and_eq_true, decide_eq_true_eq] at h
    obtain ⟨⟨h1, h2, h3⟩, h4⟩ := h
    show gone es (takeOff a (left.set _ _) r) v = _
    rw [takeOff_gone a v r _ _ t (by rw [List.length_set]; exact hl) h4, gone_set _ v (by omega) hl, h3]
    by_cases e1 : s = v <;> by_cases e2 : (es.getD k.toNat default).dst = v <;> by_cases e3 : t = v <;> simp only [e1, e2, e3, if_true, if_false] <;> omega

/-! ### How many arcs have something left -/
def posL (l : List Int) : List Nat := (List.range l.length).filter fun j => decide (0 < l.getD j 0)
theorem posL_le (l : List Int) : (posL l).length ≤ l.length := by
  have := List.length_filter_le (fun j => decide (0 < l.getD j 0)) (List.range l.length)
  rw [List.length_range] at this
  exact this
/-! ### The pieces so far -/
def usedOf (k : Nat) : List (Int × List Int) → Int
  | [] => 0
  | p :: r => (if (k : Int) ∈ p.2 then p.1 else 0) + usedOf k r
theorem usedOf_snoc (k : Nat) (p : Int × List Int) : ∀ l : List (Int × List Int), usedOf k (l ++ [p]) = usedOf k l + (if (k : Int) ∈ p.2 then p.1 else 0)
  | [] => by simp [usedOf]
  | q :: r => by simp only [List.cons_append, usedOf, usedOf_snoc k p r]; omega
def sumOf : List (Int × List Int) → Int
  | [] => 0
  | p :: r => p.1 + sumOf r
/-- An arc, no loop, that has something left. -/
def Open (es : List Arc) (left : List Int) : Prop := ∃ k : Nat, k < es.length ∧ noLoop es (k : Int) ∧ 0 < left.getD k 0
structure Spl (n s t : Int) (es : List Arc) (f left : List Int) (value : Int) (ways rounds : List (Int × List Int)) : Prop where
  ll : left.length = es.length
  nn : ∀ j, j < es.length → 0 ≤ left.getD j 0
  sum : ∀ j, j < es.length → left.getD j 0 + usedOf j ways + usedOf j rounds = f.getD j 0
  cons : ∀ v, v ≠ s → v ≠ t → gone es left v = 0
  gs : gone es left s = value
  gt : gone es left t = -value
  v0 : 0 ≤ value
  tot : sumOf ways + value = gone es f s
  okw : ∀ p ∈ ways, Pc es p s t
  okr : ∀ p ∈ rounds, ∃ x, Pc es p x x
  cnt : ways.length + rounds.length + (posL left).length ≤ es.length ∨ (value = 0 ∧ ways.length + rounds.length + (posL left).length ≤ es.length + 1 ∧ Open es left)
theorem taken_facts {es : List Arc} {left : List Int} {p : Int × List Int} {s t a : Int} (hp : PieceOk es left p s t) (hl : left.length = es.length) (hn : ∀ j, j < es.length → 0 ≤ left.getD j 0) (ha0 : 0 ≤ a) (ha : a ≤ p.1) :
    (takeOff a left p.2).length = es.length ∧ (∀ j, (takeOff a left p.2).getD j 0 = left.getD j 0 - (if (j : Int) ∈ p.2 then a else 0)) ∧ (∀ j, j < es.length → 0 ≤ (takeOff a left p.2).getD j 0 ∧ (takeOff a left p.2).getD j 0 ≤ left.getD j 0) := by
  have h1 : ∀ j, (takeOff a left p.2).getD j 0 = left.getD j 0 - (if (j : Int) ∈ p.2 then a else 0) := fun j => takeOff_at a p.2 left hp.nd (fun k hk => by rw [hl]; exact hp.kr k hk)
  refine ⟨by rw [takeOff_len]; exact hl, h1, fun j hj => ?_⟩
  rw [h1]
  have := hn j hj
  split
  · rename_i hm
    have := hp.le _ hm
    rw [Int.toNat_natCast] at this
    omega
  · omega
/-! ### Where something goes on -/
def Goes (es : List Arc) (left : List Int) (t a : Int) : Prop := ∀ v, v ≠ t → (v = a ∨ ∃ k, k < es.length ∧ 0 < left.getD k 0 ∧ (es.getD k default).dst = v) → ∃ k, k < es.length ∧ 0 < left.getD k 0 ∧ (es.getD k default).src = v
theorem gone_total {n : Int} (h12 : n ≤ 12) : ∀ {es : List Arc} {f : List Int}, (∀ a ∈ es, 0 ≤ a.src ∧ a.src < n ∧ 0 ≤ a.dst ∧ a.dst < n) → nodeSum (gone es f) 0 12 = 0
  | [], _, _ => nodeSum_zero fun j _ _ => by simp [gone]
  | a :: r, [], _ => nodeSum_zero fun j _ _ => by simp [gone]
  | a :: r, x :: f, h => by
    obtain ⟨a1, a2, a3, a4⟩ := h a List.mem_cons_self
    have ih := gone_total h12 (es := r) (f := f) (fun b hb => h b (List.mem_cons_of_mem _ hb))
    have e1 : nodeSum (fun v => if a.src = v then x else 0) 0 12 = x := by
      rw [nodeSum_one (v := a.src) (by omega) (by omega) (fun j _ _ hj => if_neg (Ne.symm hj)), if_pos rfl]
    have e2 : nodeSum (fun v => if a.dst = v then -x else 0) 0 12 = -x := by
      rw [nodeSum_one (v := a.dst) (by omega) (by omega) (fun j _ _ hj => if_neg (Ne.symm hj)), if_pos rfl]
    have e3 : nodeSum (gone (a :: r) (x :: f)) 0 12 = nodeSum (fun v => ((if a.src = v then x else 0) + (if a.dst = v then -x else 0)) + gone r f v) 0 12 := by
      refine nodeSum_congr fun j _ _ => ?_
      simp only [gone]
      by_cases q1 : a.src = (j : Int) <;> by_cases q2 : a.dst = (j : Int) <;> simp only [q1, q2, if_true, if_false] <;> omega
    rw [e3, nodeSum_add, nodeSum_add, e1, e2, ih]
    omega
theorem gone_ends {n s t : Int} {es : List Arc} {f : List Int} (h : FlOk n s t es f) : (∀ v, v ≠ s → v ≠ t → gone es f v = 0) ∧ gone es f t = - gone es f s := by
  have hok := h.net
  have hne := hok.ne
  have h12 := hok.n2
  have harc : ∀ a ∈ es, 0 ≤ a.src ∧ a.src < n ∧ 0 ≤ a.dst ∧ a.dst < n := fun a ha => by obtain ⟨q1, q2, q3, q4, _⟩ := hok.arc a ha; exact ⟨q1, q2, q3, q4⟩
  have hneg : ∀ v, v < 0 → gone es f v = 0 := by
    intro v hv
    have : ∀ {es : List Arc} {f : List Int}, (∀ a ∈ es, 0 ≤ a.src ∧ a.src < n ∧ 0 ≤ a.dst ∧ a.dst < n) → gone es f v = 0 := by
      intro es
      induction es with
      | nil => intro f _; simp [gone]
      | cons a r ih =>
        intro f h
        cases f with
        | nil => simp [gone]
        | cons x f =>
          obtain ⟨a1, a2, a3, a4⟩ := h a List.mem_cons_self
          simp only [gone]
          rw [if_neg (by omega), if_neg (by omega), ih (fun b hb => h b (List.mem_cons_of_mem _ hb))]
          rfl
    exact this harc
  have hcons : ∀ v, v ≠ s → v ≠ t → gone es f v = 0 := fun v v1 v2 => by
    by_cases e : v < 0
    · exact hneg v e
    · by_cases e2 : n ≤ v
      · exact gone_far harc e2
      · have := h.kept v.toNat (by omega) (by omega)
        rw [Int.toNat_of_nonneg (by omega)] at this
        exact this
  refine ⟨hcons, ?_⟩
  have htot := gone_total h12 (f := f) harc
  have e3 : nodeSum (gone es f) 0 12 = nodeSum (fun v => (if s = v then gone es f s else 0) + (if t = v then gone es f t else 0)) 0 12 := by
    refine nodeSum_congr fun j _ _ => ?_
    by_cases q1 : s = (j : Int)
    · rw [if_pos q1, if_neg (by omega), q1]; omega
    · rw [if_neg q1]
      by_cases q2 : t = (j : Int)
      · rw [if_pos q2, q2]; omega
      · rw [if_neg q2]; exact hcons _ (Ne.symm q1) (Ne.symm q2)
  have hs0 := hok.s0
  have hs1 := hok.s1
  have ht0 := hok.t0
  have ht1 := hok.t1
  rw [e3, nodeSum_add, nodeSum_one (v := s) (by omega) (by omega) (fun j _ _ hj => if_neg (Ne.symm hj)), nodeSum_one (v := t) (by omega) (by omega) (fun j _ _ hj => if_neg (Ne.symm hj)), if_pos rfl, if_pos rfl] at htot
  omega
theorem Spl.start {n s t : Int} {es : List Arc} {f : List Int} (h : FlOk n s t es f) (h0 : 0 ≤ gone es f s) : Spl n s t es f f (gone es f s) [] [] where
  ll := h.fin.len
  nn j hj := (h.fin.at_ j hj).1
  sum j hj := by simp [usedOf]
  cons := (gone_ends h).1
  gs := rfl
  gt := (gone_ends h).2
  v0 := h0
  tot := by simp [sumOf]
  okw p hp := by cases hp
  okr p hp := by cases hp
  cnt := .inl (by have := posL_le f; have := h.fin.len; simp; omega)
def SplitOk (n s t : Int) (es : List Arc) (f : List Int) (ways rounds : List (Int × List Int)) (e : Int) : Prop :=
  (flowErr n s t es f ≠ 0 ∧ e = flowErr n s t es f ∧ ways = [] ∧ rounds = []) ∨ (flowErr n s t es f = 0 ∧ gone es f s < 0 ∧ e = 9 ∧ ways = [] ∧ rounds = []) ∨
  (flowErr n s t es f = 0 ∧ 0 ≤ gone es f s ∧ e = 0 ∧ (∀ p ∈ ways, Pc es p s t) ∧ (∀ p ∈ rounds, ∃ x, Pc es p x x) ∧ (∀ j, j < es.length → usedOf j ways + usedOf j rounds = f.getD j 0) ∧ sumOf ways = gone es f s ∧ ways.length + rounds.length ≤ es.length)
theorem Spl.end_ {n s t : Int} {es : List Arc} {f left : List Int} {ways rounds : List (Int × List Int)} (h : Spl n s t es f left 0 ways rounds) (hE : flowErr n s t es f = 0) (hz : ∀ j, j < es.length → left.getD j 0 = 0) : SplitOk n s t es f ways rounds 0 := by
  refine .inr (.inr ⟨hE, ?_, rfl, h.okw, h.okr, fun j hj => ?_, ?_, ?_⟩)
  · have := h.tot
    have hs : ∀ l : List (Int × List Int), (∀ p ∈ l, Pc es p s t) → 0 ≤ sumOf l := by
      intro l
      induction l with
      | nil => intro _; simp [sumOf]
      | cons p r ih =>
        intro hl
        have := (hl p List.mem_cons_self).a1
        have := ih (fun q hq => hl q (List.mem_cons_of_mem _ hq))
        simp only [sumOf]
        omega
    have := hs ways h.okw
    omega
  · have := h.sum j hj
    have := hz j hj
    omega
  · have := h.tot; omega
  · rcases h.cnt with c | ⟨_, _, k, k1, _, k3⟩
    · omega
    · have := hz k k1; omega

/-! ### What the functions need -/
theorem nodup_int {W : List Int} {n : Int} (hn : W.Nodup) (hr : ∀ v ∈ W, 0 ≤ v ∧ v < n) : W.length ≤ n.toNat := by
  have := nodup_len (l := W) (m := (List.range n.toNat).map fun (v : Nat) => (v : Int)) hn (fun x hx => by
    have := hr x hx
    exact List.mem_map.2 ⟨x.toNat, List.mem_range.2 (by omega), by omega⟩)
  simpa using this
def InB (left : List Int) : Prop := ∀ j, 0 ≤ left.getD j 0 ∧ left.getD j 0 ≤ 10000
theorem InB.take {es : List Arc} {left : List Int} {p : Int × List Int} {s t a : Int} (h : InB left) (hp : PieceOk es left p s t) (hl : left.length = es.length) (ha0 : 0 ≤ a) (ha : a ≤ p.1) : InB (takeOff a left p.2) := fun j => by
  obtain ⟨h1, h2, h3⟩ := taken_facts hp hl (fun j _ => (h j).1) ha0 ha
  by_cases hj : j < es.length
  · have := h3 j hj
    have := h j
    omega
  · rw [getD_ge _ _ _ (by omega)]; omega
theorem PieceOk.lt {es : List Arc} {left : List Int} {p : Int × List Int} {s t : Int} (h : PieceOk es left p s t) (hl : left.length = es.length) : ∀ k ∈ p.2, 0 ≤ k ∧ k < left.length ∧ p.1 ≤ left.getD k.toNat 0 := fun k hk => by
  have := h.kr k hk
  exact ⟨this.1, by omega, h.le k hk⟩
theorem PieceOk.many {es : List Arc} {left : List Int} {p : Int × List Int} {s t : Int} (h : PieceOk es left p s t) : p.2.length ≤ es.length := by
  have := nodup_int (n := (es.length : Int)) h.nd h.kr
  omega
theorem PieceOk.top {es : List Arc} {left : List Int} {p : Int × List Int} {s t : Int} (h : PieceOk es left p s t) (hb : InB left) : p.1 ≤ 10000 := by
  obtain ⟨k, _, e⟩ := h.zero
  have := hb k.toNat
  omega
/-! ### The piece, as a function -/
def minAm (left arcs : List Int) : Int := minOf (arcs.map fun k => left.getD k.toNat 0)
theorem minOf_ok : ∀ {l : List Int}, l ≠ [] → minOf l ∈ l ∧ ∀ x ∈ l, minOf l ≤ x
  | [], h => absurd rfl h
  | x :: r, _ => by
    have key : ∀ (r : List Int) (m : Int), (r.foldl min m = m ∨ r.foldl min m ∈ r) ∧ r.foldl min m ≤ m ∧ ∀ y ∈ r, r.foldl min m ≤ y := by
      intro r
      induction r with
      | nil => intro m; exact ⟨.inl rfl, Int.le_refl _, fun y hy => by cases hy⟩
      | cons z r ih =>
        intro m
        obtain ⟨h1, h2, h3⟩ := ih (min m z)
        refine ⟨?_, ?_, fun y hy => ?_⟩
        · show (r.foldl min (min m z) = m) ∨ r.foldl min (min m z) ∈ z :: r
          rcases h1 with h1 | h1
          · rcases Int.le_total m z with q | q
            · left; rw [h1]; omega
            · right; rw [h1, show min m z = z by omega]; exact List.mem_cons_self
          · right; exact List.mem_cons_of_mem _ h1
        · show r.foldl min (min m z) ≤ m
          omega
        · show r.foldl min (min m z) ≤ y
          rcases List.mem_cons.1 hy with rfl | hy
          · omega
          · exact h3 y hy
    obtain ⟨h1, h2, h3⟩ := key r x
    refine ⟨?_, fun y hy => ?_⟩
    · show r.foldl min x ∈ x :: r
      rcases h1 with h1 | h1
      · rw [h1]; exact List.mem_cons_self
      · exact List.mem_cons_of_mem _ h1
    · show r.foldl min x ≤ y
      rcases List.mem_cons.1 hy with rfl | hy
      · exact h2
      · exact h3 y hy
theorem minAm_ok {left arcs : List Int} (h : arcs ≠ []) : AmOk left arcs (minAm left arcs) := by
  obtain ⟨h1, h2⟩ := minOf_ok (l := arcs.map fun k => left.getD k.toNat 0) (by simpa using h)
  obtain ⟨k, hk, e⟩ := List.mem_map.1 h1
  exact ⟨⟨k, hk, e⟩, fun k hk => h2 _ (List.mem_map.2 ⟨k, hk, rfl⟩)⟩
theorem AmOk.uniq {left arcs : List Int} {a b : Int} (h : AmOk left arcs a) (k : AmOk left arcs b) : a = b := by
  obtain ⟨⟨x, hx, e1⟩, h2⟩ := h
  obtain ⟨⟨y, hy, e2⟩, k2⟩ := k
  have := h2 y hy
  have := k2 x hx
  omega
theorem AmOk.is {left arcs : List Int} {a : Int} (h : AmOk left arcs a) : a = minAm left arcs := by
  obtain ⟨⟨x, hx, _⟩, _⟩ := id h
  exact h.uniq (minAm_ok (fun e => by rw [e] at hx; cases hx))
theorem Chn.out {es : List Arc} {left B W : List Int} {a c t : Int} (hC : Chn es left B W) (hct : W.getD B.length 0 = c) (hw0 : W.getD 0 0 = a) (hc : c ≠ t) (hg : Goes es left t a) : ∃ K, K < es.length ∧ 0 < left.getD K 0 ∧ (es.getD K default).src = c := by
  refine hg c hc ?_
  by_cases hB : B.length = 0
  · left; rw [← hct, hB]; exact hw0
  · right
    obtain ⟨q1, q2, q3, q4, q5⟩ := hC.st (B.length - 1) (by omega)
    exact ⟨(B.getD (B.length - 1) 0).toNat, by omega, q5, by rw [q4, show B.length - 1 + 1 = B.length by omega]; exact hct⟩
end Go.Ab
