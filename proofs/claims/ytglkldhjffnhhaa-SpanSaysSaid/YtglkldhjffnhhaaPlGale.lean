/- Of tables of 0 and 1 by their sums: the plain laws. -/
import Derived.Test.YtglkldhjffnhhaaPlIns
import Derived.Test.YtglkldhjffnhhaaPlA
namespace Go.Ab
/-- Which is greater. -/
def cmpI (x y : Int) : Int := if x < y then -1 else if y < x then 1 else 0
/-- i comes no later than k. -/
def leG (L : List Int) (i k : Int) : Bool := decide (L.getD k.toNat 0 < L.getD i.toNat 0 ∨ (L.getD i.toNat 0 = L.getD k.toNat 0 ∧ i ≤ k))
theorem leG_trans {L : List Int} {a b c : Int} (h1 : leG L a b = true) (h2 : leG L b c = true) : leG L a c = true := by
  have h1 := of_decide_eq_true h1
  have h2 := of_decide_eq_true h2
  exact decide_eq_true (by omega)
theorem leG_total (L : List Int) (a b : Int) : (leG L a b || leG L b a) = true := by
  unfold leG
  rw [Bool.or_eq_true, decide_eq_true_eq, decide_eq_true_eq]
  omega
theorem leG_anti {L : List Int} {a b : Int} (h1 : leG L a b = true) (h2 : leG L b a = true) : a = b := by
  have h1 := of_decide_eq_true h1
  have h2 := of_decide_eq_true h2
  omega
def ordOf (L : List Int) : List Int := (idsOf L.length).mergeSort (leG L)
theorem ord_perm (L : List Int) : (ordOf L).Perm (idsOf L.length) := List.mergeSort_perm _ _
theorem ord_len (L : List Int) : (ordOf L).length = L.length := by rw [(ord_perm L).length_eq, ids_len]
theorem ord_le (L : List Int) : (ordOf L).Pairwise (fun a b => leG L a b = true) := List.pairwise_mergeSort (le := leG L) (fun a b c h1 h2 => leG_trans h1 h2) (leG_total L) _
theorem ord_nodup (L : List Int) : (ordOf L).Nodup := (ids_nodup _).perm (ord_perm L).symm
theorem ord_mem {L : List Int} {x : Int} : x ∈ ordOf L ↔ 0 ≤ x ∧ x < L.length := by
  rw [(ord_perm L).mem_iff, ids_mem]
  exact ⟨fun ⟨k, h1, h2⟩ => by omega, fun h => ⟨x.toNat, by omega, by omega⟩⟩
theorem ord_at {L : List Int} {j : Nat} (h : j < L.length) : 0 ≤ (ordOf L).getD j 0 ∧ (ordOf L).getD j 0 < L.length := ord_mem.1 (getD_mem (by rw [ord_len]; exact h))
theorem mem_take_iff {l : List Int} {j : Nat} {x : Int} : x ∈ l.take j ↔ ∃ i : Nat, i < j ∧ i < l.length ∧ l.getD i 0 = x := by
  rw [List.mem_iff_getElem]
  constructor
  · rintro ⟨i, hi, rfl⟩
    rw [List.length_take] at hi
    refine ⟨i, by omega, by omega, ?_⟩
    rw [List.getElem_take, List.getD_eq_getElem?_getD, List.getElem?_eq_getElem (by omega)]; rfl
  · rintro ⟨i, h1, h2, rfl⟩
    refine ⟨i, by rw [List.length_take]; omega, ?_⟩
    rw [List.getElem_take, List.getD_eq_getElem?_getD, List.getElem?_eq_getElem h2]; rfl
theorem ord_inj {L : List Int} {i j : Nat} (hi : i < L.length) (hj : j < L.length) (h : (ordOf L).getD i 0 = (ordOf L).getD j 0) : i = j := by
  have hn := ord_nodup L
  have hl := ord_len L
  have h' : (ordOf L)[i]'(by omega) = (ordOf L)[j]'(by omega) := by
    simpa [List.getD_eq_getElem?_getD, List.getElem?_eq_getElem (show i < (ordOf L).length by omega), List.getElem?_eq_getElem (show j < (ordOf L).length by omega)] using h
  rcases Nat.lt_trichotomy i j with q | q | q
  · exact absurd h' (List.pairwise_iff_getElem.1 hn i j (by omega) (by omega) q)
  · exact q
  · exact absurd h'.symm (List.pairwise_iff_getElem.1 hn j i (by omega) (by omega) q)
theorem ord_not_take {L : List Int} {i j : Nat} (hj : j < L.length) (h : i ≤ j) : (ordOf L).getD j 0 ∉ (ordOf L).take i := by
  intro q
  obtain ⟨k, k1, k2, k3⟩ := mem_take_iff.1 q
  rw [ord_len] at k2
  have := ord_inj k2 hj k3
  omega
/-! ### Sets of columns -/
def setOf (l : List Int) : Int := l.foldl (fun z k => ior z (1 * 2 ^ k.toNat)) 0
theorem setOf_snoc (l : List Int) (k : Int) : setOf (l ++ [k]) = ior (setOf l) (1 * 2 ^ k.toNat) := by simp [setOf, List.foldl_append]
theorem has_fold {v : Nat} : ∀ (l : List Int) (z : Int), has (l.foldl (fun z k => ior z (1 * 2 ^ k.toNat)) z) v = (has z v || l.any fun k => decide (k.toNat = v))
  | [], z => by simp
  | k :: r, z => by
    rw [List.foldl_cons, has_fold r, has_ior, has_pow, List.any_cons, Bool.or_assoc]
theorem has_set {l : List Int} (h : ∀ x ∈ l, 0 ≤ x) {v : Nat} : has (setOf l) v = decide ((v : Int) ∈ l) := by
  rw [setOf, has_fold, has_zero, Bool.false_or]
  by_cases q : (v : Int) ∈ l
  · rw [decide_eq_true q]
    exact List.any_eq_true.2 ⟨(v : Int), q, by simp⟩
  · rw [decide_eq_false q]
    cases e : l.any fun k => decide (k.toNat = v)
    · rfl
    · obtain ⟨k, h1, h2⟩ := List.any_eq_true.1 e
      have := h k h1
      have h3 := of_decide_eq_true h2
      exact absurd (by rw [show (v : Int) = k by omega]; exact h1) q
/-! ### A row -/
def lessOf (L es : List Int) : List Int := (List.range L.length).map fun k => L.getD k 0 - if (k : Int) ∈ es then 1 else 0
theorem less_len (L es : List Int) : (lessOf L es).length = L.length := by simp [lessOf]
theorem less_at {L es : List Int} {k : Nat} (h : k < L.length) : (lessOf L es).getD k 0 = L.getD k 0 - if (k : Int) ∈ es then 1 else 0 := by
  rw [getD_lt (lessOf L es) 0 k (by rw [less_len]; exact h)]; simp [lessOf]
def firsts (L : List Int) (r : Int) : List Int := (ordOf L).take r.toNat
/-- What has been taken off so far. -/
structure Taken (L X : List Int) (z : Int) (j : Nat) : Prop where
  len : X.length = L.length
  at_ : ∀ k : Nat, k < L.length → X.getD k 0 = L.getD k 0 - if (k : Int) ∈ (ordOf L).take j then 1 else 0
  set : z = setOf ((ordOf L).take j)
theorem take_snoc {l : List Int} {j : Nat} (h : j < l.length) : l.take (j + 1) = l.take j ++ [l.getD j 0] := by
  rw [List.take_add_one, List.getElem?_eq_getElem h, List.getD_eq_getElem?_getD, List.getElem?_eq_getElem h]; rfl
theorem Taken.start (L : List Int) : Taken L L 0 0 := ⟨rfl, fun k _ => by simp, rfl⟩
theorem Taken.now {L X : List Int} {z : Int} {j : Nat} (h : Taken L X z j) (hj : j < L.length) : X.getD ((ordOf L).getD j 0).toNat 0 = L.getD ((ordOf L).getD j 0).toNat 0 := by
  have h1 := ord_at hj
  rw [h.at_ _ (by omega), if_neg]
  · omega
  · rw [Int.toNat_of_nonneg h1.1]; exact ord_not_take hj (Nat.le_refl _)
theorem Taken.step {L X : List Int} {z : Int} {j : Nat} (h : Taken L X z j) (hj : j < L.length) : Taken L (X.set ((ordOf L).getD j 0).toNat (X.getD ((ordOf L).getD j 0).toNat 0 - 1)) (ior z (1 * 2 ^ ((ordOf L).getD j 0).toNat)) (j + 1) := by
  have h1 := ord_at hj
  have hl := ord_len L
  have ht := take_snoc (l := ordOf L) (j := j) (by omega)
  refine ⟨by rw [List.length_set]; exact h.len, fun k hk => ?_, by rw [ht, setOf_snoc, h.set]⟩
  by_cases q : k = ((ordOf L).getD j 0).toNat
  · rw [q, getD_set_self _ _ _ _ (by rw [h.len]; omega), h.now hj, if_pos]
    rw [ht, Int.toNat_of_nonneg h1.1]; exact List.mem_append_right _ List.mem_cons_self
  · rw [getD_set_ne _ _ _ _ _ (Ne.symm q), h.at_ k hk]
    have : (k : Int) ∈ (ordOf L).take (j + 1) ↔ (k : Int) ∈ (ordOf L).take j := by
      rw [ht, List.mem_append, List.mem_singleton]
      constructor
      · rintro (e | e)
        · exact e
        · omega
      · exact .inl
    by_cases q2 : (k : Int) ∈ (ordOf L).take j
    · rw [if_pos q2, if_pos (this.2 q2)]
    · rw [if_neg q2, if_neg (fun e => q2 (this.1 e))]
theorem Taken.end_ {L X : List Int} {z r : Int} {j : Nat} (h : Taken L X z j) (hj : j = r.toNat) : X = lessOf L (firsts L r) ∧ z = setOf (firsts L r) := by
  subst hj
  exact ⟨list_ext 0 (by rw [h.len, less_len]) (fun k hk => by rw [h.at_ k (by rw [← h.len]; exact hk), less_at (by rw [← h.len]; exact hk)]; rfl), h.set⟩
/-- The best of the first columns that are not in the row. -/
def Best1 (L : List Int) (z : Int) (k : Nat) (b : Int) : Prop := (b = -1 ∧ ∀ v : Nat, v < k → has z v = true) ∨ (0 ≤ b ∧ b < k ∧ has z b.toNat = false ∧ ∀ v : Nat, v < k → has z v = false → leG L b v = true)
theorem Best1.start (L : List Int) (z : Int) : Best1 L z 0 (-1) := .inl ⟨rfl, fun v hv => by omega⟩
theorem Best1.in_ {L : List Int} {z : Int} {k : Nat} {b : Int} (h : Best1 L z k b) : -1 ≤ b ∧ b < k := by
  rcases h with ⟨h, _⟩ | ⟨h1, h2, _⟩ <;> omega
theorem Best1.yes {L : List Int} {z : Int} {k : Nat} {b : Int} (h : Best1 L z k b) (hk : has z k = false) (hc : b < 0 ∨ L.getD b.toNat 0 < L.getD k 0) : Best1 L z (k + 1) (k : Int) := by
  refine .inr ⟨by omega, by omega, by rw [Int.toNat_natCast]; exact hk, fun v hv hz => ?_⟩
  by_cases q : v = k
  · subst q; exact decide_eq_true (.inr ⟨rfl, by omega⟩)
  · rcases h with ⟨_, h2⟩ | ⟨h1, _, _, h4⟩
    · rw [h2 v (by omega)] at hz; cases hz
    · have := of_decide_eq_true (h4 v (by omega) hz)
      rw [Int.toNat_natCast] at this
      refine decide_eq_true ?_
      rw [Int.toNat_natCast, Int.toNat_natCast]
      omega
theorem Best1.no {L : List Int} {z : Int} {k : Nat} {b : Int} (h : Best1 L z k b) (hc : has z k = true ∨ (0 ≤ b ∧ L.getD k 0 ≤ L.getD b.toNat 0)) : Best1 L z (k + 1) b := by
  rcases h with ⟨h1, h2⟩ | ⟨h1, h2, h3, h4⟩
  · refine .inl ⟨h1, fun v hv => ?_⟩
    by_cases q : v = k
    · rcases hc with hc | hc
      · rw [q]; exact hc
      · omega
    · exact h2 v (by omega)
  · refine .inr ⟨h1, by omega, h3, fun v hv hz => ?_⟩
    by_cases q : v = k
    · subst q
      rcases hc with hc | hc
      · rw [hc] at hz; cases hz
      · refine decide_eq_true ?_
        rw [Int.toNat_natCast]
        omega
    · exact h4 v (by omega) hz
theorem Best1.end_ {L : List Int} {z b : Int} {j : Nat} (h : Best1 L z L.length b) (hz : z = setOf ((ordOf L).take j)) (hj : j < L.length) : b = (ordOf L).getD j 0 := by
  have hpos : ∀ x ∈ (ordOf L).take j, 0 ≤ x := fun x hx => (ord_mem.1 (List.mem_of_mem_take hx)).1
  have h1 := ord_at hj
  have hl := ord_len L
  have hun : has z ((ordOf L).getD j 0).toNat = false := by
    rw [hz, has_set hpos, Int.toNat_of_nonneg h1.1]
    exact decide_eq_false (ord_not_take hj (Nat.le_refl _))
  rcases h with ⟨_, h3⟩ | ⟨h2, h3, h4, h5⟩
  · rw [h3 _ (by omega)] at hun; cases hun
  · have h6 := h5 ((ordOf L).getD j 0).toNat (by omega) hun
    rw [Int.toNat_of_nonneg h1.1] at h6
    refine leG_anti h6 ?_
    obtain ⟨i, i1, i2⟩ := List.mem_iff_getElem.1 (ord_mem.2 ⟨h2, h3⟩)
    have hi : (ordOf L).getD i 0 = b := by rw [List.getD_eq_getElem?_getD, List.getElem?_eq_getElem i1]; exact i2
    rw [hz, has_set hpos, Int.toNat_of_nonneg h2] at h4
    have h4 := of_decide_eq_false h4
    have hij : j ≤ i := by
      rcases Nat.lt_or_ge i j with q | q
      · exact absurd (mem_take_iff.2 ⟨i, q, i1, hi⟩) h4
      · exact q
    rcases Nat.lt_or_eq_of_le hij with q | q
    · have := List.pairwise_iff_getElem.1 (ord_le L) j i (by omega) i1 q
      rw [List.getD_eq_getElem?_getD, List.getElem?_eq_getElem (by omega), ← i2]
      exact this
    · subst q; rw [hi]; exact decide_eq_true (.inr ⟨rfl, Int.le_refl _⟩)
/-! ### The errors -/
/-! ### Turned -/
end Go.Ab
