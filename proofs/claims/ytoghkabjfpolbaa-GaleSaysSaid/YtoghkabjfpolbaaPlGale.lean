/- Of tables of 0 and 1 by their sums: the plain laws. -/
import Derived.Test.YtoghkabjfpolbaaPlIns
import Derived.Test.YtoghkabjfpolbaaPlBits
namespace Go.Ab
/-- Which is greater. -/
def cmpI (x y : Int) : Int := if x < y then -1 else if y < x then 1 else 0
/-- Who is asked first: of the greater left, and of these of the lower number. -/
def cmpG (L : List Int) (x y : Int) : Int := if cmpI (L.getD y.toNat 0) (L.getD x.toNat 0) ≠ 0 then cmpI (L.getD y.toNat 0) (L.getD x.toNat 0) else cmpI x y
/-- i comes no later than k. -/
def leG (L : List Int) (i k : Int) : Bool := decide (L.getD k.toNat 0 < L.getD i.toNat 0 ∨ (L.getD i.toNat 0 = L.getD k.toNat 0 ∧ i ≤ k))
theorem cmpG_le {L : List Int} {x y : Int} : ¬ cmpG L y x < 0 ↔ leG L x y = true := by
  unfold cmpG leG cmpI
  rw [decide_eq_true_eq]
  generalize L.getD x.toNat 0 = a
  generalize L.getD y.toNat 0 = b
  by_cases h1 : a < b
  · simp only [if_pos h1]
    constructor
    · intro h; exact absurd (by rw [if_pos (by decide)]; decide) h
    · intro h; omega
  · simp only [if_neg h1]
    by_cases h2 : b < a
    · simp only [if_pos h2]
      constructor
      · intro _; exact .inl h2
      · intro _; rw [if_pos (by decide)]; decide
    · simp only [if_neg h2]
      by_cases h3 : y < x
      · simp only [if_pos h3]
        constructor
        · intro h; exact absurd (by decide) h
        · intro h; omega
      · simp only [if_neg h3]
        by_cases h4 : x < y
        · simp only [if_pos h4]
          constructor
          · intro _; omega
          · intro _; decide
        · simp only [if_neg h4]
          constructor
          · intro _; omega
          · intro _; decide
theorem leG_trans {L : List Int} {a b c : Int} (h1 : leG L a b = true) (h2 : leG L b c = true) : leG L a c = true := by
  have h1 := of_decide_eq_true h1
  have h2 := of_decide_eq_true h2
  exact decide_eq_true (by omega)
theorem leG_total (L : List Int) (a b : Int) : (leG L a b || leG L b a) = true := by
  unfold leG
  rw [Bool.or_eq_true, decide_eq_true_eq, decide_eq_true_eq]
  omega
theorem leG_anti {L : List Int} {a b : Int} (h1 : leG L a b = true) (h2 : leG L b a = true) : a = b := by
  have h1 := of_decide_eq_true h1
  have h2 := of_decide_eq_true h2
  omega
theorem cmpG_ok (L : List Int) : CmpOk (cmpG L) := by
  refine ⟨fun x y h q => ?_, fun x y z h1 h2 => cmpG_le.2 (leG_trans (cmpG_le.1 h1) (cmpG_le.1 h2))⟩
  have h1 : ¬ leG L y x = true := fun e => cmpG_le.2 e h
  have h2 : ¬ leG L x y = true := fun e => cmpG_le.2 e q
  have := leG_total L x y
  rw [Bool.or_eq_true] at this
  rcases this with e | e
  · exact h2 e
  · exact h1 e
def ordOf (L : List Int) : List Int := (idsOf L.length).mergeSort (leG L)
theorem ord_perm (L : List Int) : (ordOf L).Perm (idsOf L.length) := List.mergeSort_perm _ _
theorem ord_len (L : List Int) : (ordOf L).length = L.length := by rw [(ord_perm L).length_eq, ids_len]
theorem ord_le (L : List Int) : (ordOf L).Pairwise (fun a b => leG L a b = true) := List.pairwise_mergeSort (le := leG L) (fun a b c h1 h2 => leG_trans h1 h2) (leG_total L) _
theorem ord_is {L e : List Int} (hp : e.Perm (idsOf L.length)) (hs : e.Pairwise (fun a b => leG L a b = true)) : e = ordOf L :=
  (hp.trans (ord_perm L).symm).eq_of_pairwise (fun _ _ _ _ h1 h2 => leG_anti h1 h2) hs (ord_le L)
theorem ord_nodup (L : List Int) : (ordOf L).Nodup := (ids_nodup _).perm (ord_perm L).symm
theorem ord_mem {L : List Int} {x : Int} : x ∈ ordOf L ↔ 0 ≤ x ∧ x < L.length := by
  rw [(ord_perm L).mem_iff, ids_mem]
  exact ⟨fun ⟨k, h1, h2⟩ => by omega, fun h => ⟨x.toNat, by omega, by omega⟩⟩
theorem ord_at {L : List Int} {j : Nat} (h : j < L.length) : 0 ≤ (ordOf L).getD j 0 ∧ (ordOf L).getD j 0 < L.length := ord_mem.1 (getD_mem (by rw [ord_len]; exact h))
theorem mem_take_iff {l : List Int} {j : Nat} {x : Int} : x ∈ l.take j ↔ ∃ i : Nat, i < j ∧ i < l.length ∧ l.getD i 0 = x := by
  rw [List.mem_iff_getElem]
  constructor
  · rintro ⟨i, hi, rfl⟩
    rw [List.length_take] at hi
    refine ⟨i, by omega, by omega, ?_⟩
    rw [List.getElem_take, List.getD_eq_getElem?_getD, List.getElem?_eq_getElem (by omega)]; rfl
  · rintro ⟨i, h1, h2, rfl⟩
    refine ⟨i, by rw [List.length_take]; omega, ?_⟩
    rw [List.getElem_take, List.getD_eq_getElem?_getD, List.getElem?_eq_getElem h2]; rfl
theorem ord_inj {L : List Int} {i j : Nat} (hi : i < L.length) (hj : j < L.length) (h : (ordOf L).getD i 0 = (ordOf L).getD j 0) : i = j := by
  have hn := ord_nodup L
  have hl := ord_len L
  have h' : (ordOf L)[i]'(by omega) = (ordOf L)[j]'(by omega) := by
    simpa [List.getD_eq_getElem?_getD, List.getElem?_eq_getElem (show i < (ordOf L).length by omega), List.getElem?_eq_getElem (show j < (ordOf L).length by omega)] using h
  rcases Nat.lt_trichotomy i j with q | q | q
  · exact absurd h' (List.pairwise_iff_getElem.1 hn i j (by omega) (by omega) q)
  · exact q
  · exact absurd h'.symm (List.pairwise_iff_getElem.1 hn j i (by omega) (by omega) q)
theorem ord_not_take {L : List Int} {i j : Nat} (hj : j < L.length) (h : i ≤ j) : (ordOf L).getD j 0 ∉ (ordOf L).take i := by
  intro q
  obtain ⟨k, k1, k2, k3⟩ := mem_take_iff.1 q
  rw [ord_len] at k2
  have := ord_inj k2 hj k3
  omega
/-! ### Sets of columns -/
def setOf (l : List Int) : Int := l.foldl (fun z k => ior z (1 * 2 ^ k.toNat)) 0
theorem setOf_snoc (l : List Int) (k : Int) : setOf (l ++ [k]) = ior (setOf l) (1 * 2 ^ k.toNat) := by simp [setOf, List.foldl_append]
theorem has_fold {v : Nat} : ∀ (l : List Int) (z : Int), has (l.foldl (fun z k => ior z (1 * 2 ^ k.toNat)) z) v = (has z v || l.any fun k => decide (k.toNat = v))
  | [], z => by simp
  | k :: r, z => by
    rw [List.foldl_cons, has_fold r, has_ior, has_pow, List.any_cons, Bool.or_assoc]
theorem has_set {l : List Int} (h : ∀ x ∈ l, 0 ≤ x) {v : Nat} : has (setOf l) v = decide ((v : Int) ∈ l) := by
  rw [setOf, has_fold, has_zero, Bool.false_or]
  by_cases q : (v : Int) ∈ l
  · rw [decide_eq_true q]
    exact List.any_eq_true.2 ⟨(v : Int), q, by simp⟩
  · rw [decide_eq_false q]
    cases e : l.any fun k => decide (k.toNat = v)
    · rfl
    · obtain ⟨k, h1, h2⟩ := List.any_eq_true.1 e
      have := h k h1
      have h3 := of_decide_eq_true h2
      exact absurd (by rw [show (v : Int) = k by omega]; exact h1) q
theorem set0 (l : List Int) : 0 ≤ setOf l := by
  rcases List.eq_nil_or_concat l with rfl | ⟨r, k, rfl⟩
  · exact Int.le_refl _
  · rw [List.concat_eq_append, setOf_snoc]; exact ior0 _ _
theorem set_lt {l : List Int} {n : Nat} (h : ∀ x ∈ l, 0 ≤ x ∧ x < n) : setOf l < ((2 ^ n : Nat) : Int) := by
  refine lt_has (set0 l) fun v hv => ?_
  rw [has_set (fun x hx => (h x hx).1)]
  exact decide_eq_false fun q => by have := h _ q; omega
/-! ### A row -/
def lessOf (L es : List Int) : List Int := (List.range L.length).map fun k => L.getD k 0 - if (k : Int) ∈ es then 1 else 0
theorem less_len (L es : List Int) : (lessOf L es).length = L.length := by simp [lessOf]
theorem less_at {L es : List Int} {k : Nat} (h : k < L.length) : (lessOf L es).getD k 0 = L.getD k 0 - if (k : Int) ∈ es then 1 else 0 := by
  rw [getD_lt (lessOf L es) 0 k (by rw [less_len]; exact h)]; simp [lessOf]
def firsts (L : List Int) (r : Int) : List Int := (ordOf L).take r.toNat
def badRow (L : List Int) (r : Int) : Bool := (firsts L r).any fun k => decide (L.getD k.toNat 0 = 0)
theorem firsts_in {L : List Int} {r x : Int} (h : x ∈ firsts L r) : 0 ≤ x ∧ x < L.length := ord_mem.1 (List.mem_of_mem_take h)
theorem bad_yes {L : List Int} {r : Int} {j : Nat} (h1 : (j : Int) < r) (h2 : j < L.length) (h : L.getD ((ordOf L).getD j 0).toNat 0 = 0) : badRow L r = true :=
  List.any_eq_true.2 ⟨_, mem_take_iff.2 ⟨j, by omega, by rw [ord_len]; exact h2, rfl⟩, decide_eq_true h⟩
theorem bad_no {L : List Int} {r : Int} (h : ∀ j : Nat, (j : Int) < r → L.getD ((ordOf L).getD j 0).toNat 0 ≠ 0) : badRow L r = false := by
  cases e : badRow L r
  · rfl
  · obtain ⟨x, h1, h2⟩ := List.any_eq_true.1 e
    obtain ⟨j, j1, _, j3⟩ := mem_take_iff.1 h1
    exact absurd (by rw [j3]; exact of_decide_eq_true h2) (h j (by omega))
def galeGo : List Int → List Int → List Int → Option (List Int)
  | [], L, acc => if (L.any fun x => decide (x ≠ 0)) = true then none else some acc
  | r :: rs, L, acc => if badRow L r = true then none else galeGo rs (lessOf L (firsts L r)) (acc ++ [setOf (firsts L r)])
theorem gale_drop {rows L acc : List Int} {i : Nat} (h : i < rows.length) : galeGo (rows.drop i) L acc = if badRow L (rows.getD i 0) = true then none else galeGo (rows.drop (i + 1)) (lessOf L (firsts L (rows.getD i 0))) (acc ++ [setOf (firsts L (rows.getD i 0))]) := by
  rw [drop_getD rows 0 i h]; rfl
theorem gale_end {rows L acc : List Int} {i : Nat} (h : rows.length ≤ i) : galeGo (rows.drop i) L acc = if (L.any fun x => decide (x ≠ 0)) = true then none else some acc := by
  rw [List.drop_of_length_le h]; rfl
def galeRes (rows cols : List Int) : List Int := (galeGo rows cols []).getD []
theorem any_pos : ∀ {L : List Int}, (∀ k : Nat, k < L.length → 0 ≤ L.getD k 0) → (L.any fun x => decide (0 < x)) = (L.any fun x => decide (x ≠ 0))
  | [], _ => rfl
  | x :: r, h => by
    have h0 : 0 ≤ x := by simpa using h 0 (by simp)
    have := any_pos (L := r) (fun k hk => by have := h (k + 1) (by simpa using hk); simpa using this)
    rw [List.any_cons, List.any_cons, this]
    congr 1
    by_cases q : x = 0
    · subst q; simp
    · rw [decide_eq_true q, decide_eq_true (by omega)]
theorem less_in {L : List Int} {r : Int} (h0 : ∀ k : Nat, k < L.length → 0 ≤ L.getD k 0 ∧ L.getD k 0 ≤ 12) (hb : badRow L r = false) : ∀ k : Nat, k < (lessOf L (firsts L r)).length → 0 ≤ (lessOf L (firsts L r)).getD k 0 ∧ (lessOf L (firsts L r)).getD k 0 ≤ 12 := by
  intro k hk
  rw [less_len] at hk
  rw [less_at hk]
  have h1 := h0 k hk
  by_cases q : (k : Int) ∈ firsts L r
  · rw [if_pos q]
    have := any_no hb _ q
    have := of_decide_eq_false this
    rw [Int.toNat_natCast] at this
    omega
  · rw [if_neg q]; omega
/-- What has been taken off so far. -/
structure Taken (L X : List Int) (z : Int) (j : Nat) : Prop where
  len : X.length = L.length
  at_ : ∀ k : Nat, k < L.length → X.getD k 0 = L.getD k 0 - if (k : Int) ∈ (ordOf L).take j then 1 else 0
  set : z = setOf ((ordOf L).take j)
theorem take_snoc {l : List Int} {j : Nat} (h : j < l.length) : l.take (j + 1) = l.take j ++ [l.getD j 0] := by
  rw [List.take_add_one, List.getElem?_eq_getElem h, List.getD_eq_getElem?_getD, List.getElem?_eq_getElem h]; rfl
theorem Taken.start (L : List Int) : Taken L L 0 0 := ⟨rfl, fun k _ => by simp, rfl⟩
theorem Taken.now {L X : List Int} {z : Int} {j : Nat} (h : Taken L X z j) (hj : j < L.length) : X.getD ((ordOf L).getD j 0).toNat 0 = L.getD ((ordOf L).getD j 0).toNat 0 := by
  have h1 := ord_at hj
  rw [h.at_ _ (by omega), if_neg]
  · omega
  · rw [Int.toNat_of_nonneg h1.1]; exact ord_not_take hj (Nat.le_refl _)
theorem Taken.step {L X : List Int} {z : Int} {j : Nat} (h : Taken L X z j) (hj : j < L.length) : Taken L (X.set ((ordOf L).getD j 0).toNat (X.getD ((ordOf L).getD j 0).toNat 0 - 1)) (ior z (1 * 2 ^ ((ordOf L).getD j 0).toNat)) (j + 1) := by
  have h1 := ord_at hj
  have hl := ord_len L
  have ht := take_snoc (l := ordOf L) (j := j) (by omega)
  refine ⟨by rw [List.length_set]; exact h.len, fun k hk => ?_, by rw [ht, setOf_snoc, h.set]⟩
  by_cases q : k = ((ordOf L).getD j 0).toNat
  · rw [q, getD_set_self _ _ _ _ (by rw [h.len]; omega), h.now hj, if_pos]
    rw [ht, Int.toNat_of_nonneg h1.1]; exact List.mem_append_right _ List.mem_cons_self
  · rw [getD_set_ne _ _ _ _ _ (Ne.symm q), h.at_ k hk]
    have : (k : Int) ∈ (ordOf L).take (j + 1) ↔ (k : Int) ∈ (ordOf L).take j := by
      rw [ht, List.mem_append, List.mem_singleton]
      constructor
      · rintro (e | e)
        · exact e
        · omega
      · exact .inl
    by_cases q2 : (k : Int) ∈ (ordOf L).take j
    · rw [if_pos q2, if_pos (this.2 q2)]
    · rw [if_neg q2, if_neg (fun e => q2 (this.1 e))]
theorem Taken.end_ {L X : List Int} {z r : Int} {j : Nat} (h : Taken L X z j) (hj : j = r.toNat) : X = lessOf L (firsts L r) ∧ z = setOf (firsts L r) := by
  subst hj
  exact ⟨list_ext 0 (by rw [h.len, less_len]) (fun k hk => by rw [h.at_ k (by rw [← h.len]; exact hk), less_at (by rw [← h.len]; exact hk)]; rfl), h.set⟩
theorem Taken.z_in {L X : List Int} {z : Int} {j : Nat} (h : Taken L X z j) (hn : L.length ≤ 12) : 0 ≤ z ∧ z ≤ 4095 := by
  have h1 := set_lt (l := (ordOf L).take j) (n := L.length) (fun x hx => ord_mem.1 (List.mem_of_mem_take hx))
  have h2 : (2 : Nat) ^ L.length ≤ 2 ^ 12 := Nat.pow_le_pow_right (by omega) hn
  rw [h.set]
  have := set0 ((ordOf L).take j)
  omega
theorem pow12 {k : Int} (h0 : 0 ≤ k) (h1 : k < 12) : 1 ≤ (1 : Int) * 2 ^ k.toNat ∧ (1 : Int) * 2 ^ k.toNat ≤ 2048 := by
  obtain ⟨m, rfl⟩ : ∃ m : Nat, k = m := ⟨k.toNat, by omega⟩
  rw [Int.toNat_natCast]
  have : m < 12 := by omega
  match m, this with
  | 0, _ => decide
  | 1, _ => decide
  | 2, _ => decide
  | 3, _ => decide
  | 4, _ => decide
  | 5, _ => decide
  | 6, _ => decide
  | 7, _ => decide
  | 8, _ => decide
  | 9, _ => decide
  | 10, _ => decide
  | 11, _ => decide
/-- The best of the first columns that are not in the row. -/
def Best1 (L : List Int) (z : Int) (k : Nat) (b : Int) : Prop := (b = -1 ∧ ∀ v : Nat, v < k → has z v = true) ∨ (0 ≤ b ∧ b < k ∧ has z b.toNat = false ∧ ∀ v : Nat, v < k → has z v = false → leG L b v = true)
theorem Best1.start (L : List Int) (z : Int) : Best1 L z 0 (-1) := .inl ⟨rfl, fun v hv => by omega⟩
theorem Best1.in_ {L : List Int} {z : Int} {k : Nat} {b : Int} (h : Best1 L z k b) : -1 ≤ b ∧ b < k := by
  rcases h with ⟨h, _⟩ | ⟨h1, h2, _⟩ <;> omega
theorem Best1.yes {L : List Int} {z : Int} {k : Nat} {b : Int} (h : Best1 L z k b) (hk : has z k = false) (hc : b < 0 ∨ L.getD b.toNat 0 < L.getD k 0) : Best1 L z (k + 1) (k : Int) := by
  refine .inr ⟨by omega, by omega, by rw [Int.toNat_natCast]; exact hk, fun v hv hz => ?_⟩
  by_cases q : v = k
  · subst q; exact decide_eq_true (.inr ⟨rfl, by omega⟩)
  · rcases h with ⟨_, h2⟩ | ⟨h1, _, _, h4⟩
    · rw [h2 v (by omega)] at hz; cases hz
    · have := of_decide_eq_true (h4 v (by omega) hz)
      rw [Int.toNat_natCast] at this
      refine decide_eq_true ?_
      rw [Int.toNat_natCast, Int.toNat_natCast]
      omega
theorem Best1.no {L : List Int} {z : Int} {k : Nat} {b : Int} (h : Best1 L z k b) (hc : has z k = true ∨ (0 ≤ b ∧ L.getD k 0 ≤ L.getD b.toNat 0)) : Best1 L z (k + 1) b := by
  rcases h with ⟨h1, h2⟩ | ⟨h1, h2, h3, h4⟩
  · refine .inl ⟨h1, fun v hv => ?_⟩
    by_cases q : v = k
    · rcases hc with hc | hc
      · rw [q]; exact hc
      · omega
    · exact h2 v (by omega)
  · refine .inr ⟨h1, by omega, h3, fun v hv hz => ?_⟩
    by_cases q : v = k
    · subst q
      rcases hc with hc | hc
      · rw [hc] at hz; cases hz
      · refine decide_eq_true ?_
        rw [Int.toNat_natCast]
        omega
    · exact h4 v (by omega) hz
theorem Best1.end_ {L : List Int} {z b : Int} {j : Nat} (h : Best1 L z L.length b) (hz : z = setOf ((ordOf L).take j)) (hj : j < L.length) : b = (ordOf L).getD j 0 := by
  have hpos : ∀ x ∈ (ordOf L).take j, 0 ≤ x := fun x hx => (ord_mem.1 (List.mem_of_mem_take hx)).1
  have h1 := ord_at hj
  have hl := ord_len L
  have hun : has z ((ordOf L).getD j 0).toNat = false := by
    rw [hz, has_set hpos, Int.toNat_of_nonneg h1.1]
    exact decide_eq_false (ord_not_take hj (Nat.le_refl _))
  rcases h with ⟨_, h3⟩ | ⟨h2, h3, h4, h5⟩
  · rw [h3 _ (by omega)] at hun; cases hun
  · have h6 := h5 ((ordOf L).getD j 0).toNat (by omega) hun
    rw [Int.toNat_of_nonneg h1.1] at h6
    refine leG_anti h6 ?_
    obtain ⟨i, i1, i2⟩ := List.mem_iff_getElem.1 (ord_mem.2 ⟨h2, h3⟩)
    have hi : (ordOf L).getD i 0 = b := by rw [List.getD_eq_getElem?_getD, List.getElem?_eq_getElem i1]; exact i2
    rw [hz, has_set hpos, Int.toNat_of_nonneg h2] at h4
    have h4 := of_decide_eq_false h4
    have hij : j ≤ i := by
      rcases Nat.lt_or_ge i j with q | q
      · exact absurd (mem_take_iff.2 ⟨i, q, i1, hi⟩) h4
      · exact q
    rcases Nat.lt_or_eq_of_le hij with q | q
    · have := List.pairwise_iff_getElem.1 (ord_le L) j i (by omega) i1 q
      rw [List.getD_eq_getElem?_getD, List.getElem?_eq_getElem (by omega), ← i2]
      exact this
    · subst q; rw [hi]; exact decide_eq_true (.inr ⟨rfl, Int.le_refl _⟩)
/-! ### The errors -/
def overB (l : List Int) (m : Int) : Bool := l.any fun x => decide (x < 0) || decide (m < x)
theorem overB_drop {l : List Int} {m : Int} {i : Nat} (h : i < l.length) : overB (l.drop i) m = ((decide (l.getD i 0 < 0) || decide (m < l.getD i 0)) || overB (l.drop (i + 1)) m) := by
  rw [drop_getD l 0 i h]; rfl
theorem overB_end {l : List Int} {m : Int} {i : Nat} (h : l.length ≤ i) : overB (l.drop i) m = false := by rw [List.drop_of_length_le h]; rfl
theorem overB_at {l : List Int} {m : Int} (h : overB l m = false) {i : Nat} (hi : i < l.length) : 0 ≤ l.getD i 0 ∧ l.getD i 0 ≤ m := by
  have := any_no h _ (getD_mem (d := 0) hi)
  simp only [Bool.or_eq_false_iff, decide_eq_false_iff_not] at this
  omega
def sumsErr (rows cols : List Int) : Int := if 12 < rows.length ∨ 12 < cols.length then 2 else if overB rows cols.length = true ∨ overB cols rows.length = true then 1 else 0
def makeErr (rows cols : List Int) : Int := if sumsErr rows cols ≠ 0 then sumsErr rows cols else if (galeGo rows cols []).isSome = true then 0 else 5
theorem sumsErr_ok {rows cols : List Int} (h : sumsErr rows cols = 0) : rows.length ≤ 12 ∧ cols.length ≤ 12 ∧ (∀ i : Nat, i < rows.length → 0 ≤ rows.getD i 0 ∧ rows.getD i 0 ≤ cols.length) ∧ ∀ k : Nat, k < cols.length → 0 ≤ cols.getD k 0 ∧ cols.getD k 0 ≤ 12 := by
  unfold sumsErr at h
  split at h
  · cases h
  rename_i h1
  split at h
  · cases h
  rename_i h2
  have hr : overB rows cols.length = false := by
    cases e : overB rows cols.length
    · rfl
    · exact absurd (.inl e) h2
  have hc : overB cols rows.length = false := by
    cases e : overB cols rows.length
    · rfl
    · exact absurd (.inr e) h2
  refine ⟨by omega, by omega, fun i hi => overB_at hr hi, fun k hk => ?_⟩
  have := overB_at hc hk
  omega
/-! ### Turned -/
def cntOver (l : List Int) (k : Int) : Int := (l.countP fun x => decide (k < x) : Nat)
def topOf (l : List Int) : Int := l.foldl max 0
def turned (l : List Int) : List Int := (List.range (topOf l).toNat).map fun (k : Nat) => cntOver l k
def turnErr (l : List Int) : Int := if 12 < l.length then 2 else if overB l 12 = true then 1 else 0
theorem top_ge : ∀ (l : List Int) (m : Int), m ≤ l.foldl max m ∧ ∀ x ∈ l, x ≤ l.foldl max m
  | [], m => ⟨Int.le_refl _, fun x hx => by cases hx⟩
  | y :: r, m => by
    obtain ⟨h1, h2⟩ := top_ge r (max m y)
    rw [List.foldl_cons]
    refine ⟨by omega, fun x hx => ?_⟩
    rcases List.mem_cons.1 hx with rfl | h
    · omega
    · exact h2 x h
theorem top_mem : ∀ (l : List Int) (m : Int), l.foldl max m = m ∨ l.foldl max m ∈ l
  | [], m => .inl rfl
  | y :: r, m => by
    rw [List.foldl_cons]
    rcases top_mem r (max m y) with h | h
    · rw [h]
      rcases Int.le_total m y with q | q
      · right; rw [Int.max_eq_right q]; exact List.mem_cons_self
      · left; exact Int.max_eq_left q
    · exact .inr (List.mem_cons_of_mem _ h)
theorem cnt_pos {l : List Int} {k : Int} (h0 : 0 ≤ k) : cntOver l k = 0 ↔ topOf l ≤ k := by
  have h1 := top_ge l 0
  unfold cntOver topOf
  constructor
  · intro h
    rcases top_mem l 0 with q | q
    · omega
    · have hz : l.countP (fun x => decide (k < x)) = 0 := by omega
      have := List.countP_eq_zero.1 hz _ q
      simpa using this
  · intro h
    have : l.countP (fun x => decide (k < x)) = 0 := List.countP_eq_zero.2 fun x hx => by have := h1.2 x hx; simp; omega
    omega
theorem turned_len (l : List Int) : (turned l).length = (topOf l).toNat := by simp [turned]
theorem turned_at {l : List Int} {k : Nat} (h : k < (topOf l).toNat) : (turned l).getD k 0 = cntOver l k := by
  rw [getD_lt (turned l) 0 k (by rw [turned_len]; exact h)]; simp [turned]
theorem cnt_take {l : List Int} {k : Int} {i : Nat} (h : i < l.length) : cntOver (l.take (i + 1)) k = cntOver (l.take i) k + if k < l.getD i 0 then 1 else 0 := by
  unfold cntOver
  rw [take_snoc h, List.countP_append, List.countP_cons, List.countP_nil]
  by_cases q : k < l.getD i 0
  · rw [if_pos q, if_pos (decide_eq_true q)]; omega
  · rw [if_neg q, if_neg (by rw [decide_eq_false q]; decide)]; omega
theorem top_take {l : List Int} {i : Nat} (h : i < l.length) : topOf (l.take (i + 1)) = max (topOf (l.take i)) (l.getD i 0) := by
  unfold topOf
  rw [take_snoc h, List.foldl_append]; rfl
theorem cnt_le (l : List Int) (k : Int) : 0 ≤ cntOver l k ∧ cntOver l k ≤ l.length := by
  unfold cntOver
  have := List.countP_le_length (p := fun x => decide (k < x)) (l := l)
  omega
theorem getD_rep (n j : Nat) : (List.replicate n (0 : Int)).getD j 0 = 0 := by
  rw [List.getD_eq_getElem?_getD]
  by_cases h : j < n
  · rw [List.getElem?_replicate, if_pos h]; rfl
  · rw [List.getElem?_replicate, if_neg h]; rfl
theorem fill_cnt {l o : List Int} {n k : Nat} (ho : o.length = n ∧ (∀ j : Nat, j < k → o.getD j 0 = cntOver l j) ∧ ∀ j : Nat, k ≤ j → o.getD j 0 = 0) (hk : k < n) :
    (o.set k (cntOver l k)).length = n ∧ (∀ j : Nat, j < k + 1 → (o.set k (cntOver l k)).getD j 0 = cntOver l j) ∧ ∀ j : Nat, k + 1 ≤ j → (o.set k (cntOver l k)).getD j 0 = 0 := by
  refine ⟨by rw [List.length_set]; exact ho.1, fun j hj => ?_, fun j hj => ?_⟩
  · by_cases q : j = k
    · rw [q, getD_set_self _ _ _ _ (by omega)]
    · rw [getD_set_ne _ _ _ _ _ (Ne.symm q)]; exact ho.2.1 j (by omega)
  · rw [getD_set_ne _ _ _ _ _ (by omega)]; exact ho.2.2 j (by omega)
theorem set_zero {l o : List Int} {n k : Nat} (ho : o.length = n ∧ (∀ j : Nat, j < k → o.getD j 0 = cntOver l j) ∧ ∀ j : Nat, k ≤ j → o.getD j 0 = 0) (hk : k < n) : o = o.set k (cntOver (l.take 0) k) := by
  refine list_ext 0 (by rw [List.length_set]) fun j hj => ?_
  by_cases q : j = k
  · rw [q, getD_set_self _ _ _ _ (by omega), ho.2.2 k (by omega)]; rfl
  · rw [getD_set_ne _ _ _ _ _ (Ne.symm q)]
theorem top_in {l : List Int} (h : overB l 12 = false) : 0 ≤ topOf l ∧ topOf l ≤ 12 := by
  have h1 := top_ge l 0
  refine ⟨h1.1, ?_⟩
  rcases top_mem l 0 with q | q
  · have : topOf l = 0 := q
    omega
  · have := any_no h _ q
    simp only [Bool.or_eq_false_iff, decide_eq_false_iff_not] at this
    have h2 : topOf l = l.foldl max 0 := rfl
    omega
theorem bit_nat {z : Int} (h : 0 ≤ z) (k : Nat) : iand (z / 2 ^ k) 1 = if has z k = true then 1 else 0 := by
  have := bit_has (z := z) (k : Int) h
  rw [Int.toNat_natCast] at this
  rw [← this]; unfold bit; rw [Int.toNat_natCast]
theorem set_in {L : List Int} {j : Nat} (hn : L.length ≤ 12) : 0 ≤ setOf ((ordOf L).take j) ∧ setOf ((ordOf L).take j) ≤ 4095 := by
  have h1 := set_lt (l := (ordOf L).take j) (n := L.length) (fun x hx => ord_mem.1 (List.mem_of_mem_take hx))
  have h2 : (2 : Nat) ^ L.length ≤ 2 ^ 12 := Nat.pow_le_pow_right (by omega) hn
  have := set0 ((ordOf L).take j)
  omega
theorem less_step {X Y es : List Int} {k : Nat} {z v : Int} (hY : Y.length = X.length ∧ (∀ p : Nat, p < k → Y.getD p 0 = (lessOf X es).getD p 0) ∧ ∀ p : Nat, k ≤ p → Y.getD p 0 = X.getD p 0) (hk : k < X.length)
    (hv : v = if has z k = true then 1 else 0) (hs : has z k = decide ((k : Int) ∈ es)) : (Y.set k (Y.getD k 0 - v)).length = X.length ∧ (∀ p : Nat, p < k + 1 → (Y.set k (Y.getD k 0 - v)).getD p 0 = (lessOf X es).getD p 0) ∧ ∀ p : Nat, k + 1 ≤ p → (Y.set k (Y.getD k 0 - v)).getD p 0 = X.getD p 0 := by
  refine ⟨by rw [List.length_set]; exact hY.1, fun p hp => ?_, fun p hp => ?_⟩
  · by_cases q : p = k
    · rw [q, getD_set_self _ _ _ _ (by omega), hY.2.2 k (Nat.le_refl _), less_at hk, hv, hs]
      simp only [decide_eq_true_eq]
    · rw [getD_set_ne _ _ _ _ _ (Ne.symm q)]; exact hY.2.1 p (by omega)
  · rw [getD_set_ne _ _ _ _ _ (by omega)]; exact hY.2.2 p (by omega)
theorem shr_nat {z : Int} (h0 : 0 ≤ z) (h1 : z ≤ 4095) (k : Nat) : 0 ≤ z / 2 ^ k ∧ z / 2 ^ k ≤ 65535 := by
  have hp : (0 : Int) < 2 ^ k := Int.pow_pos (by decide)
  refine ⟨Int.ediv_nonneg h0 (by omega), ?_⟩
  have := Int.ediv_le_self (2 ^ k) h0
  omega
end Go.Ab
