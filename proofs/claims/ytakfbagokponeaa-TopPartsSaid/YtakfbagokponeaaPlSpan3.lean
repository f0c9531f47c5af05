/- Of what joins all, at the least (Kruskal): the plain laws. -/
import Derived.Test.YtakfbagokponeaaPlSpan
namespace Go.Ab
abbrev ar (es : List Arc) (k : Nat) : Arc := es.getD k default
def lowB (es : List Arc) (i k : Nat) : Bool := decide ((ar es i).cap < (ar es k).cap) || (decide ((ar es i).cap = (ar es k).cap) && decide (i < k))
theorem lowB_iff {es : List Arc} {i k : Nat} : lowB es i k = true ↔ (ar es i).cap < (ar es k).cap ∨ ((ar es i).cap = (ar es k).cap ∧ i < k) := by unfold lowB; simp
def lowTo (es : List Arc) (k : Nat) : Nat → List Arc
  | 0 => []
  | i + 1 => if lowB es i k = true then lowTo es k i ++ [ar es i] else lowTo es k i
theorem low_mem {es : List Arc} {k : Nat} {a : Arc} : ∀ {i : Nat}, a ∈ lowTo es k i ↔ ∃ j, j < i ∧ lowB es j k = true ∧ a = ar es j
  | 0 => ⟨fun h => (by cases h), fun ⟨j, h, _⟩ => (by omega)⟩
  | i + 1 => by
    unfold lowTo
    have ih := low_mem (es := es) (k := k) (a := a) (i := i)
    split
    · rename_i h
      rw [List.mem_append, List.mem_singleton, ih]
      constructor
      · rintro (⟨j, h1, h2⟩ | rfl)
        · exact ⟨j, by omega, h2⟩
        · exact ⟨i, by omega, h, rfl⟩
      · rintro ⟨j, h1, h2, h3⟩
        rcases Nat.lt_succ_iff_lt_or_eq.1 h1 with q | q
        · exact .inl ⟨j, q, h2, h3⟩
        · subst q; exact .inr h3
    · rename_i h
      rw [ih]
      constructor
      · rintro ⟨j, h1, h2⟩; exact ⟨j, by omega, h2⟩
      · rintro ⟨j, h1, h2, h3⟩
        rcases Nat.lt_succ_iff_lt_or_eq.1 h1 with q | q
        · exact ⟨j, q, h2, h3⟩
        · subst q; exact absurd h2 h
theorem low_len (es : List Arc) (k : Nat) : ∀ i, (lowTo es k i).length ≤ i
  | 0 => Nat.le_refl _
  | i + 1 => by have := low_len es k i; unfold lowTo; split <;> (try rw [List.length_append, List.length_singleton]) <;> omega
theorem low_ok {n : Int} {es : List Arc} {k i : Nat} (hG : GOk n es (-10000)) (hi : i ≤ es.length) : GOk n (lowTo es k i) (-10000) :=
  ⟨hG.n1, hG.n2, by have := low_len es k i; have := hG.len; omega, fun a ha => by
    obtain ⟨j, h1, _, rfl⟩ := low_mem.1 ha
    exact hG.arc _ (getD_mem (by omega))⟩
def tak (n : Int) (es : List Arc) (k : Nat) : Bool := decide ((joinedOf n (lowTo es k es.length)).getD (ar es k).src.toNat 0 ≠ (joinedOf n (lowTo es k es.length)).getD (ar es k).dst.toNat 0)
def leastTo (n : Int) (es : List Arc) : Nat → List Int
  | 0 => []
  | k + 1 => if tak n es k = true then leastTo n es k ++ [(k : Int)] else leastTo n es k
def sumTk (n : Int) (es : List Arc) : Nat → Int
  | 0 => 0
  | k + 1 => if tak n es k = true then sumTk n es k + (ar es k).cap else sumTk n es k
theorem tak_lk {n : Int} {es : List Arc} {k : Nat} (hG : GOk n es (-10000)) (hk : k < es.length) : tak n es k = true ↔ ¬ Lk (lowTo es k es.length) (ar es k).src (ar es k).dst := by
  have hL := low_ok (k := k) hG (Nat.le_refl _)
  obtain ⟨h1, h2, h3, h4, _⟩ := hG.arc _ (getD_mem (d := default) hk)
  have h5 := hG.n2
  have := lk_root (u := (ar es k).src.toNat) (v := (ar es k).dst.toNat) (by omega) hL.inR (by show ((es.getD k default).src.toNat : Int) < n; omega) (by show ((es.getD k default).dst.toNat : Int) < n; omega)
  rw [Int.toNat_of_nonneg h1, Int.toNat_of_nonneg h3] at this
  unfold tak
  rw [decide_eq_true_eq, ← this]
structure OrdK (es : List Arc) (o : List Int) : Prop where
  perm : o.Perm (idsOf es.length)
  up : o.Pairwise fun i k => lowB es i.toNat k.toNat = true
theorem OrdK.len {es : List Arc} {o : List Int} (h : OrdK es o) : o.length = es.length := by rw [h.perm.length_eq, ids_len]
theorem OrdK.at_ {es : List Arc} {o : List Int} (h : OrdK es o) {q : Nat} (hq : q < o.length) : 0 ≤ o.getD q 0 ∧ o.getD q 0 < es.length := by
  obtain ⟨k, h1, h2⟩ := ids_mem.1 (h.perm.mem_iff.1 (getD_mem (d := 0) hq))
  omega
def arcsOf (es : List Arc) (l : List Int) : List Arc := l.map fun k => ar es k.toNat
theorem lowB_irr {es : List Arc} {i k : Nat} (h : lowB es i k = true) : lowB es k i = false := by
  cases e : lowB es k i
  · rfl
  · have h1 := lowB_iff.1 h
    have h2 := lowB_iff.1 e
    omega
theorem ahead_mem {es : List Arc} {o : List Int} (h : OrdK es o) {q : Nat} (hq : q < o.length) {a : Arc} : a ∈ arcsOf es (o.take q) ↔ a ∈ lowTo es (o.getD q 0).toNat es.length := by
  have hq2 := h.at_ hq
  have hl := h.len
  unfold arcsOf
  rw [List.mem_map, low_mem]
  constructor
  · rintro ⟨k, hk, rfl⟩
    obtain ⟨j, hj, rfl⟩ := List.getElem_of_mem hk
    rw [List.length_take] at hj
    rw [List.getElem_take]
    have hj2 := h.at_ (q := j) (by omega)
    rw [getD_lt o 0 j (by omega)] at hj2
    refine ⟨(o[j]'(by omega)).toNat, by omega, ?_, rfl⟩
    rw [getD_lt o 0 q hq]
    exact List.pairwise_iff_getElem.1 h.up j q (by omega) hq (by omega)
  · rintro ⟨j, hj, h1, rfl⟩
    obtain ⟨p, hp, e⟩ := List.getElem_of_mem (h.perm.mem_iff.2 (ids_mem.2 ⟨j, hj, rfl⟩))
    have hpq : p < q := by
      rcases Nat.lt_trichotomy p q with r | r | r
      · exact r
      · subst r
        rw [getD_lt o 0 p hq, e, Int.toNat_natCast] at h1
        rw [lowB_irr h1] at h1; cases h1
      · have h2 := List.pairwise_iff_getElem.1 h.up q p hq hp r
        rw [e, Int.toNat_natCast, ← getD_lt o 0 q hq] at h2
        rw [lowB_irr h1] at h2; cases h2
    refine ⟨(j : Int), ?_, by rw [Int.toNat_natCast]⟩
    have : (o.take q)[p]'(by rw [List.length_take]; omega) = (j : Int) := by rw [List.getElem_take, e]
    rw [← this]
    exact List.getElem_mem _
def takL (n : Int) (es : List Arc) (l : List Int) : List Int := l.filter fun k => tak n es k.toNat
def sumL (es : List Arc) (l : List Int) : Int := (l.map fun k => (ar es k.toNat).cap).sum
structure Kr (n : Int) (es : List Arc) (o : List Int) (q : Nat) (P out : List Int) (sm : Int) : Prop where
  prt : Prt n (arcsOf es (o.take q)) P
  out_ : out = takL n es (o.take q)
  sum_ : sm = sumL es out
theorem take_snocK {l : List Int} {j : Nat} (h : j < l.length) : l.take (j + 1) = l.take j ++ [l.getD j 0] := by
  rw [List.take_add_one, getD_lt l 0 j h, List.getElem?_eq_getElem h]; rfl
theorem arcs_snoc {es : List Arc} {o : List Int} {q : Nat} (hq : q < o.length) : arcsOf es (o.take (q + 1)) = arcsOf es (o.take q) ++ [ar es (o.getD q 0).toNat] := by
  unfold arcsOf; rw [take_snocK hq, List.map_append]; rfl
theorem takL_snoc {n : Int} {es : List Arc} {o : List Int} {q : Nat} (hq : q < o.length) : takL n es (o.take (q + 1)) = takL n es (o.take q) ++ if tak n es (o.getD q 0).toNat = true then [o.getD q 0] else [] := by
  unfold takL; rw [take_snocK hq, List.filter_append, List.filter_cons]; rfl
theorem sumL_snoc (es : List Arc) (l : List Int) (k : Int) : sumL es (l ++ [k]) = sumL es l + (ar es k.toNat).cap := by
  unfold sumL; rw [List.map_append, List.sum_append]; simp
theorem Kr.same {n : Int} {es : List Arc} {o : List Int} {q : Nat} {P out : List Int} {sm : Int} (h : Kr n es o q P out sm) (hO : OrdK es o) (hG : GOk n es (-10000)) (hq : q < o.length) :
    P.getD (ar es (o.getD q 0).toNat).src.toNat 0 = P.getD (ar es (o.getD q 0).toNat).dst.toNat 0 ↔ tak n es (o.getD q 0).toNat = false := by
  have hk := hO.at_ hq
  have hm := getD_mem (xs := es) (d := default) (i := (o.getD q 0).toNat) (by omega)
  obtain ⟨h1, h2, h3, h4, _⟩ := hG.arc _ hm
  rw [h.prt.lab _ _ (by unfold ar; omega) (by unfold ar; omega), Int.toNat_of_nonneg h1, Int.toNat_of_nonneg h3]
  have ht := tak_lk hG (k := (o.getD q 0).toNat) (by omega)
  have hL : Lk (arcsOf es (o.take q)) (ar es (o.getD q 0).toNat).src (ar es (o.getD q 0).toNat).dst ↔ Lk (lowTo es (o.getD q 0).toNat es.length) (ar es (o.getD q 0).toNat).src (ar es (o.getD q 0).toNat).dst :=
    ⟨fun x => x.mono fun a ha => (ahead_mem hO hq).1 ha, fun x => x.mono fun a ha => (ahead_mem hO hq).2 ha⟩
  rw [hL]
  constructor
  · intro x
    cases e : tak n es (o.getD q 0).toNat
    · rfl
    · exact absurd x (ht.1 e)
  · intro x
    refine Classical.byContradiction fun y => ?_
    rw [ht.2 y] at x; cases x
theorem Kr.start {n : Int} {es : List Arc} {o P : List Int} (hl : P.length = n.toNat) (h : ∀ v, v < n.toNat → P.getD v 0 = v) : Kr n es o 0 P [] 0 := ⟨Prt.start hl h, rfl, rfl⟩
theorem Kr.skip {n : Int} {es : List Arc} {o : List Int} {q : Nat} {P out : List Int} {sm : Int} (h : Kr n es o q P out sm) (hO : OrdK es o) (hG : GOk n es (-10000)) (hq : q < o.length)
    (he : P.getD (ar es (o.getD q 0).toNat).src.toNat 0 = P.getD (ar es (o.getD q 0).toNat).dst.toNat 0) : Kr n es o (q + 1) P out sm := by
  have hk := hO.at_ hq
  obtain ⟨h1, h2, h3, h4, _⟩ := hG.arc _ (getD_mem (xs := es) (d := default) (i := (o.getD q 0).toNat) (by omega))
  have ht := (h.same hO hG hq).1 he
  exact ⟨by rw [arcs_snoc hq]; exact h.prt.skip h1 h2 h3 h4 he, by rw [takL_snoc hq, ht, h.out_]; simp, h.sum_⟩
theorem Kr.join {n : Int} {es : List Arc} {o : List Int} {q : Nat} {P out : List Int} {sm : Int} (h : Kr n es o q P out sm) (hO : OrdK es o) (hG : GOk n es (-10000)) (hq : q < o.length)
    (he : P.getD (ar es (o.getD q 0).toNat).src.toNat 0 ≠ P.getD (ar es (o.getD q 0).toNat).dst.toNat 0) :
    Kr n es o (q + 1) (toQ (P.getD (ar es (o.getD q 0).toNat).src.toNat 0) (P.getD (ar es (o.getD q 0).toNat).dst.toNat 0) P) (out ++ [o.getD q 0]) (sm + (ar es (o.getD q 0).toNat).cap) := by
  have hk := hO.at_ hq
  obtain ⟨h1, h2, h3, h4, _⟩ := hG.arc _ (getD_mem (xs := es) (d := default) (i := (o.getD q 0).toNat) (by omega))
  have ht : tak n es (o.getD q 0).toNat = true := by
    cases e : tak n es (o.getD q 0).toNat
    · exact absurd ((h.same hO hG hq).2 e) he
    · rfl
  exact ⟨by rw [arcs_snoc hq]; exact h.prt.join h1 h2 h3 h4, by rw [takL_snoc hq, if_pos ht, h.out_], by rw [sumL_snoc, h.sum_]⟩
theorem takL_ids (n : Int) (es : List Arc) : ∀ k, takL n es (idsOf k) = leastTo n es k ∧ sumL es (leastTo n es k) = sumTk n es k
  | 0 => ⟨rfl, rfl⟩
  | k + 1 => by
    obtain ⟨h1, h2⟩ := takL_ids n es k
    have hs : idsOf (k + 1) = idsOf k ++ [(k : Int)] := by unfold idsOf; rw [List.range_succ, List.map_append]; rfl
    have ht : takL n es (idsOf (k + 1)) = takL n es (idsOf k) ++ if tak n es k = true then [(k : Int)] else [] := by
      unfold takL; rw [hs, List.filter_append, List.filter_cons, Int.toNat_natCast]; rfl
    unfold leastTo sumTk
    rw [ht, h1]
    split
    · refine ⟨rfl, ?_⟩
      rw [sumL_snoc, h2, Int.toNat_natCast]
    · exact ⟨List.append_nil _, h2⟩
theorem sum_perm {a b : List Int} (h : a.Perm b) : a.sum = b.sum := by
  induction h with
  | nil => rfl
  | cons x _ ih => rw [List.sum_cons, List.sum_cons, ih]
  | swap x y l => simp only [List.sum_cons]; omega
  | trans _ _ h1 h2 => exact h1.trans h2
theorem least_up (n : Int) (es : List Arc) (k : Nat) : (leastTo n es k).Pairwise (· ≤ ·) := by
  rw [← (takL_ids n es k).1]
  exact (ids_le k).filter _
theorem Kr.end_ {n : Int} {es : List Arc} {o : List Int} {q : Nat} {P out : List Int} {sm : Int} (h : Kr n es o q P out sm) (hO : OrdK es o) (hq : o.length ≤ q) : sorted out = leastTo n es es.length ∧ sm = sumTk n es es.length := by
  have h1 : out = takL n es o := by rw [h.out_, List.take_of_length_le hq]
  have h2 : out.Perm (leastTo n es es.length) := by
    rw [h1, ← (takL_ids n es es.length).1]
    exact hO.perm.filter _
  refine ⟨((sorted_perm out).trans h2).eq_of_pairwise (fun a b _ _ x y => Int.le_antisymm x y) (sorted_le out) (least_up n es _), ?_⟩
  rw [h.sum_, ← (takL_ids n es es.length).2]
  exact sum_perm (h2.map _)
end Go.Ab
namespace Go.Ab
def ordO (es : List Arc) : List Int := (idsOf es.length).mergeSort fun i k => !lowB es k.toNat i.toNat
theorem ordO_ok (es : List Arc) : OrdK es (ordO es) := by
  have hp : (ordO es).Perm (idsOf es.length) := List.mergeSort_perm _ _
  refine ⟨hp, ?_⟩
  have hs := List.pairwise_mergeSort (le := fun i k : Int => !lowB es k.toNat i.toNat) (fun a b c h1 h2 => by
    rw [Bool.not_eq_true'] at h1 h2 ⊢
    cases e : lowB es c.toNat a.toNat
    · rfl
    · have e1 := lowB_iff.1 e
      have f1 : ¬ _ := fun q => Bool.false_ne_true (h1.symm.trans (lowB_iff.2 q))
      have f2 : ¬ _ := fun q => Bool.false_ne_true (h2.symm.trans (lowB_iff.2 q))
      omega) (fun a b => by
    rw [Bool.or_eq_true, Bool.not_eq_true', Bool.not_eq_true']
    cases e : lowB es b.toNat a.toNat
    · exact .inl rfl
    · exact .inr (lowB_irr e)) (idsOf es.length)
  have hn : (ordO es).Nodup := (List.Perm.nodup_iff hp).2 (ids_nodup _)
  have h2 : (ordO es).Pairwise fun a b => a ≠ b := hn
  refine List.Pairwise.imp_of_mem ?_ (hs.and h2)
  intro a b ha hb hab
  obtain ⟨h1, h3⟩ := hab
  obtain ⟨i, hi, rfl⟩ := ids_mem.1 (hp.mem_iff.1 ha)
  obtain ⟨k, hk, rfl⟩ := ids_mem.1 (hp.mem_iff.1 hb)
  rw [Bool.not_eq_true'] at h1
  rw [Int.toNat_natCast, Int.toNat_natCast] at h1 ⊢
  rw [lowB_iff]
  have f1 : ¬ _ := fun q => Bool.false_ne_true (h1.symm.trans (lowB_iff.2 q))
  have : i ≠ k := fun q => h3 (by rw [q])
  omega
end Go.Ab
namespace Go.Ab
def mixQ (p q : Int) (P : List Int) (i : Nat) : List Int := toQ p q (P.take i) ++ P.drop i
theorem mixQ_len (p q : Int) (P : List Int) (i : Nat) : (mixQ p q P i).length = P.length := by
  unfold mixQ toQ; rw [List.length_append, List.length_map, List.length_take, List.length_drop]; omega
theorem mixQ_all {p q : Int} {P : List Int} {i : Nat} (hi : P.length ≤ i) : mixQ p q P i = toQ p q P := by
  unfold mixQ; rw [List.take_of_length_le hi, List.drop_of_length_le hi, List.append_nil]
theorem mixQ_at {p q : Int} {P : List Int} {i : Nat} (hi : i < P.length) : (mixQ p q P i).getD i 0 = P.getD i 0 := by
  unfold mixQ
  have hl : (toQ p q (P.take i)).length = i := by unfold toQ; rw [List.length_map, List.length_take]; omega
  rw [List.getD_eq_getElem?_getD, List.getElem?_append_right (by omega), hl, Nat.sub_self, List.getElem?_drop, Nat.add_zero, ← List.getD_eq_getElem?_getD]
theorem mixQ_next {p q : Int} {P : List Int} {i : Nat} (hi : i < P.length) : mixQ p q P (i + 1) = (mixQ p q P i).set i (if P.getD i 0 = p then q else P.getD i 0) := by
  refine list_ext 0 (by rw [List.length_set, mixQ_len, mixQ_len]) fun v hv => ?_
  rw [mixQ_len] at hv
  have at_ : ∀ (j v : Nat), v < P.length → (mixQ p q P j).getD v 0 = if v < j then (if P.getD v 0 = p then q else P.getD v 0) else P.getD v 0 := fun j v hv => by
    unfold mixQ
    by_cases h : v < j
    · rw [getD_app_l _ _ _ _ (by unfold toQ; rw [List.length_map, List.length_take]; omega), toQ_at (by rw [List.length_take]; omega), if_pos h]
      have : (P.take j).getD v 0 = P.getD v 0 := by rw [List.getD_eq_getElem?_getD, List.getD_eq_getElem?_getD, List.getElem?_take, if_pos h]
      rw [this]
    · have hl : (toQ p q (P.take j)).length = min j P.length := by unfold toQ; rw [List.length_map, List.length_take]
      rw [if_neg h, List.getD_eq_getElem?_getD, List.getElem?_append_right (by omega), hl, List.getElem?_drop, show j + (v - min j P.length) = v by omega, ← List.getD_eq_getElem?_getD]
  by_cases e : v = i
  · subst e
    rw [getD_set_self _ _ _ _ (by rw [mixQ_len]; exact hi), at_ (v + 1) v hv, if_pos (by omega)]
  · rw [getD_set_ne _ _ _ _ _ (Ne.symm e), at_ (i + 1) v hv, at_ i v hv]
    by_cases h : v < i
    · rw [if_pos h, if_pos (by omega)]
    · rw [if_neg h, if_neg (by omega)]
theorem mixQ_same {p q : Int} {P : List Int} {i : Nat} (hi : i < P.length) (h : P.getD i 0 ≠ p) : mixQ p q P (i + 1) = mixQ p q P i := by
  rw [mixQ_next hi, if_neg h, ← mixQ_at (p := p) (q := q) hi]
  have hl : i < (mixQ p q P i).length := by rw [mixQ_len]; exact hi
  rw [getD_lt _ 0 i hl, List.set_getElem_self]
theorem ids_snoc (k : Nat) : idsOf (k + 1) = idsOf k ++ [(k : Int)] := by unfold idsOf; rw [List.range_succ, List.map_append]; rfl
theorem takL_sub (n : Int) (es : List Arc) (l : List Int) : (takL n es l).length ≤ l.length := List.length_filter_le _ _
theorem Kr.sum_in {n : Int} {es : List Arc} {o : List Int} {q : Nat} {P out : List Int} {sm : Int} (h : Kr n es o q P out sm) (hO : OrdK es o) (hG : GOk n es (-10000)) (hq : q ≤ o.length) : out.length ≤ q ∧ -10000 * (q : Int) ≤ sm ∧ sm ≤ 10000 * (q : Int) := by
  have key : ∀ l : List Int, (∀ k ∈ l, 0 ≤ k ∧ k < es.length) → -10000 * (l.length : Int) ≤ sumL es l ∧ sumL es l ≤ 10000 * (l.length : Int) := by
    intro l
    induction l with
    | nil => intro _; constructor <;> exact Int.le_refl _
    | cons k l ih =>
      intro hk
      have h1 := ih fun x hx => hk x (List.mem_cons_of_mem _ hx)
      have h2 := hk k List.mem_cons_self
      obtain ⟨_, _, _, _, c5, c6⟩ := hG.arc _ (getD_mem (xs := es) (d := default) (i := k.toNat) (by omega))
      have h3 : sumL es (k :: l) = (ar es k.toNat).cap + sumL es l := by unfold sumL; rw [List.map_cons, List.sum_cons]
      rw [h3, List.length_cons]
      unfold ar
      omega
  have hl : out.length ≤ q := by
    rw [h.out_]
    exact Nat.le_trans (takL_sub _ _ _) (by rw [List.length_take]; omega)
  have := key out fun k hk => by
    rw [h.out_] at hk
    have h1 := List.mem_of_mem_take (List.mem_filter.1 hk).1
    obtain ⟨j, h2, h3⟩ := ids_mem.1 (hO.perm.mem_iff.1 h1)
    omega
  rw [← h.sum_] at this
  omega
end Go.Ab
