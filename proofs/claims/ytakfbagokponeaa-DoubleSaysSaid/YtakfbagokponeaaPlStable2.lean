/- Of pairs that stay: who asks, and who says no: the plain laws. -/
import Derived.Test.YtakfbagokponeaaPlStable
namespace Go.Ab
theorem rowFind_none {b : List (List Int)} {p : List Int} {i : Int} : ∀ {l : List Int}, rowFind b p i l = none → ∀ k ∈ l, blockAt b p i k = false
  | [], _, k, hk => by cases hk
  | x :: r, h, k, hk => by
    rw [rowFind] at h
    split at h
    · cases h
    · rename_i h1
      rcases List.mem_cons.1 hk with rfl | h2
      · simpa using h1
      · exact rowFind_none h k h2
theorem rowFind_no {b : List (List Int)} {p : List Int} {i : Int} : ∀ {l : List Int}, (∀ k ∈ l, blockAt b p i k = false) → rowFind b p i l = none
  | [], _ => rfl
  | x :: r, h => by
    rw [rowFind, if_neg (by rw [h x List.mem_cons_self]; decide)]
    exact rowFind_no fun k hk => h k (List.mem_cons_of_mem _ hk)
theorem partFrom_no {b : List (List Int)} {p : List Int} : ∀ {a : List (List Int)} {i : Nat}, partFrom b p i a = none ↔ ∀ j, j < a.length → rowFind b p ((i + j : Nat) : Int) (before (a.getD j []) (p.getD (i + j) 0)) = none
  | [], i => by simp [partFrom]
  | r :: q, i => by
    rw [partFrom]
    constructor
    · intro h
      split at h
      · cases h
      · rename_i h1
        intro j hj
        cases j with
        | zero => exact h1
        | succ j =>
          have := (partFrom_no (a := q) (i := i + 1)).1 h j (by simpa using hj)
          rw [show i + 1 + j = i + (j + 1) by omega] at this
          exact this
    · intro h
      have h0 := h 0 (by simp)
      have h0' : rowFind b p (i : Int) (before r (p.getD i 0)) = none := h0
      rw [h0']
      refine (partFrom_no (a := q) (i := i + 1)).2 fun j hj => ?_
      have := h (j + 1) (by simpa using hj)
      rw [show i + (j + 1) = i + 1 + j by omega] at this
      exact this
theorem mem_before {r : List Int} {x k : Int} (_hx : x ∈ r) (hk : k ∈ r) (h : rk r k < rk r x) : k ∈ before r x := by
  obtain ⟨i, h1, h2, h3, _⟩ := rk_mem hk
  unfold before
  have hi : i < (r.take (rk r x).toNat).length := by rw [List.length_take]; omega
  have : (r.take (rk r x).toNat).getD i 0 = k := by rw [getD_take _ _ _ (by omega)]; exact h3
  rw [← this]; exact getD_mem hi
theorem before_mem {r : List Int} {x k : Int} (_hx : x ∈ r) (h : k ∈ before r x) : k ∈ r ∧ rk r k < rk r x := by
  unfold before at h
  obtain ⟨i, hi, rfl⟩ := List.mem_iff_getElem.1 h
  rw [List.length_take] at hi
  have hg : (r.take (rk r x).toNat)[i] = r[i] := List.getElem_take
  rw [hg]
  have hm : r[i]'(by omega) ∈ r := List.getElem_mem _
  refine ⟨hm, ?_⟩
  obtain ⟨j, j1, j2, j3, j4⟩ := rk_mem hm
  rcases Nat.lt_or_ge i j with q | q
  · exact absurd (by simp [List.getD_eq_getElem?_getD, List.getElem?_eq_getElem (show i < r.length by omega)]) (j4 i q)
  · omega
/-- Nobody would rather go: by pairs. -/
theorem part_iff {a b : List (List Int)} {p : List Int} (ha : ∀ i, i < a.length → isFull a.length (a.getD i [])) (hp : isFull a.length p) :
    partOf a b p = none ↔ ∀ i, i < a.length → ∀ k ∈ a.getD i [], rk (a.getD i []) k < rk (a.getD i []) (p.getD i 0) → ¬ rk (b.getD k.toNat []) i < rk (b.getD k.toNat []) (rk p k) := by
  unfold partOf
  rw [partFrom_no]
  simp only [Nat.zero_add]
  have hmem : ∀ i, i < a.length → p.getD i 0 ∈ a.getD i [] := fun i hi => isFull.mem_ (ha i hi) (hp.at_ hi).1 (hp.at_ hi).2
  constructor
  · intro h i hi k hk hlt
    have := rowFind_none (h i hi) k (mem_before (hmem i hi) hk hlt)
    exact of_decide_eq_false this
  · intro h i hi
    refine rowFind_no fun k hk => ?_
    obtain ⟨h1, h2⟩ := before_mem (hmem i hi) hk
    exact decide_eq_false (h i hi k h1 h2)
theorem rk_nodup {l : List Int} (h : l.Nodup) {i : Nat} (hi : i < l.length) : rk l (l.getD i 0) = i := by
  refine rk_at (fun j hj q => ?_) hi rfl
  have h1 : l[j]'(by omega) = l[i] := by simpa [List.getD_eq_getElem?_getD, List.getElem?_eq_getElem hi, List.getElem?_eq_getElem (show j < l.length by omega)] using q
  exact List.pairwise_iff_getElem.1 h j i (by omega) hi hj h1
theorem rk_inj {l : List Int} {x y : Int} (hx : x ∈ l) (hy : y ∈ l) (h : rk l x = rk l y) : x = y := by
  rw [← (rk_in hx).2.2, ← (rk_in hy).2.2, h]
/-- What keeps a pair from being together for good. -/
theorem lose {a b : List (List Int)} {p : List Int} (hl : Lists a b) (hp : isFull a.length p) (hs : partOf a b p = none) {w o k : Nat} (hw : w < a.length) (ho : o < a.length) (hk : k < a.length)
    (hno : rk (a.getD w []) (p.getD w 0) < rk (a.getD w []) k → False) (hb : rk (b.getD k []) w < rk (b.getD k []) o) : p.getD o 0 ≠ k := by
  intro q
  have hne : w ≠ o := by intro e; rw [e] at hb; omega
  have hpk : rk p k = o := by rw [← q]; exact rk_nodup hp.nodup (by rw [hp.1]; exact ho)
  have hpw : p.getD w 0 ≠ k := by
    intro e
    have h1 : rk p (p.getD w 0) = w := rk_nodup hp.nodup (by rw [hp.1]; exact hw)
    rw [e, hpk] at h1
    omega
  have hka : (k : Int) ∈ a.getD w [] := (hl.ra w hw).2 k hk
  have hpa : p.getD w 0 ∈ a.getD w [] := isFull.mem_ (hl.ra w hw) (hp.at_ hw).1 (hp.at_ hw).2
  rcases Int.lt_trichotomy (rk (a.getD w []) (p.getD w 0)) (rk (a.getD w []) k) with h | h | h
  · exact hno h
  · exact hpw (rk_inj hpa hka h)
  · have := (part_iff hl.ra hp).1 hs w hw k hka h
    rw [Int.toNat_natCast, hpk] at this
    exact this hb
structure GS (a b : List (List Int)) (n : Nat) (mate next : List Int) (i : Nat) (asks : Int) : Prop where
  ml : mate.length = n
  nl : next.length = n
  nx : ∀ j : Nat, j < n → 0 ≤ next.getD j 0 ∧ next.getD j 0 ≤ n
  m1 : ∀ k : Nat, k < n → mate.getD k 0 = -1 ∨ ∃ j : Nat, j < i ∧ mate.getD k 0 = j ∧ 1 ≤ next.getD j 0 ∧ (a.getD j []).getD (next.getD j 0 - 1).toNat 0 = k
  eng : ∀ j : Nat, j < i → (j : Int) ≠ asks → ∃ k : Nat, k < n ∧ mate.getD k 0 = j
  rej : ∀ j t k : Nat, j < n → (t : Int) < next.getD j 0 → (a.getD j []).getD t 0 = k → mate.getD k 0 = j ∨ (0 ≤ mate.getD k 0 ∧ rk (b.getD k []) (mate.getD k 0) < rk (b.getD k []) j)
  bd : -1 ≤ asks ∧ asks < i ∧ i ≤ n
  free : 0 ≤ asks → ∀ k : Nat, k < n → mate.getD k 0 ≠ asks
  opt : ∀ p, isFull n p → partOf a b p = none → ∀ j t k : Nat, j < n → (t : Int) < next.getD j 0 → (a.getD j []).getD t 0 = k → mate.getD k 0 ≠ j → p.getD j 0 ≠ k
theorem GS.mate_in {a b : List (List Int)} {n : Nat} {mate next : List Int} {i : Nat} {asks : Int} (h : GS a b n mate next i asks) {k : Nat} (hk : k < n) : -1 ≤ mate.getD k 0 ∧ mate.getD k 0 < i := by
  have := h.bd
  rcases h.m1 k hk with q | ⟨j, h1, h2, _⟩ <;> omega
theorem GS.one {a b : List (List Int)} {n : Nat} {mate next : List Int} {i : Nat} {asks : Int} (h : GS a b n mate next i asks) {k k' : Nat} (hk : k < n) (hk' : k' < n) (h0 : 0 ≤ mate.getD k 0) (he : mate.getD k 0 = mate.getD k' 0) : k = k' := by
  rcases h.m1 k hk with q | ⟨j, _, h2, _, h3⟩
  · omega
  rcases h.m1 k' hk' with q | ⟨j', _, h2', _, h3'⟩
  · omega
  have : j = j' := by omega
  subst this
  omega
theorem nodup_of {l : List Int} (h : ∀ i j : Nat, i < j → j < l.length → l.getD i 0 ≠ l.getD j 0) : l.Nodup := by
  refine List.pairwise_iff_getElem.2 fun i j hi hj hij => ?_
  have := h i j hij hj
  simpa [List.getD_eq_getElem?_getD, List.getElem?_eq_getElem hi, List.getElem?_eq_getElem hj] using this
theorem GS.lt {a b : List (List Int)} {n : Nat} {mate next : List Int} {i s : Nat} (hl : Lists a b) (hn : a.length = n) (h : GS a b n mate next i s) : next.getD s 0 < n := by
  subst hn
  have hb := h.bd
  have hs : s < a.length := by omega
  rcases Int.lt_or_le (next.getD s 0) a.length with q | q
  · exact q
  exfalso
  have hpos : ∀ k : Nat, k < a.length → 0 ≤ mate.getD k 0 := by
    intro k hk
    obtain ⟨t, _, t2, t3, _⟩ := rk_mem ((hl.ra s hs).2 k hk)
    rw [(hl.ra s hs).1] at t2
    rcases h.rej s t k hs (by omega) t3 with h1 | h1
    · exact absurd h1 (h.free (by omega) k hk)
    · exact h1.1
  have hnd : mate.Nodup := nodup_of fun x y hxy hy e => by
    have hy' : y < a.length := by rw [← h.ml]; exact hy
    have := h.one (k := x) (k' := y) (by omega) hy' (hpos x (by omega)) e
    omega
  have hsub : mate ⊆ (idsOf a.length).erase (s : Int) := by
    intro x hx
    obtain ⟨k, hk, rfl⟩ := List.mem_iff_getElem.1 hx
    have hk' : k < a.length := by rw [← h.ml]; exact hk
    have hg : mate.getD k 0 = mate[k] := by simp [List.getD_eq_getElem?_getD, List.getElem?_eq_getElem hk]
    rw [← hg]
    have h1 := h.mate_in hk'
    have h2 := hpos k hk'
    have h3 := h.free (by omega) k hk'
    exact (List.mem_erase_of_ne h3).2 (ids_mem.2 ⟨(mate.getD k 0).toNat, by omega, by omega⟩)
  have hle := List.Nodup.length_le_of_subset hnd hsub
  rw [List.length_erase_of_mem (ids_mem.2 ⟨s, hs, rfl⟩), ids_len, h.ml] at hle
  omega
section
variable {a b : List (List Int)} {n : Nat} {mate next : List Int} {i s k : Nat}
theorem next_at (h : GS a b n mate next i s) {j : Nat} : (next.set s (next.getD s 0 + 1)).getD j 0 = if j = s then next.getD s 0 + 1 else next.getD j 0 := by
  have hb := h.bd
  by_cases q : j = s
  · rw [if_pos q, q, getD_set_self _ _ _ _ (by rw [h.nl]; omega)]
  · rw [if_neg q, getD_set_ne _ _ _ _ _ (Ne.symm q)]
theorem mate_at (h : GS a b n mate next i s) (hk : k < n) {j : Nat} : (mate.set k (s : Int)).getD j 0 = if j = k then (s : Int) else mate.getD j 0 := by
  by_cases q : j = k
  · rw [if_pos q, q, getD_set_self _ _ _ _ (by rw [h.ml]; omega)]
  · rw [if_neg q, getD_set_ne _ _ _ _ _ (Ne.symm q)]
/-- Whoever has not been taken by any that he asked so far cannot have one of these. -/
theorem GS.worse (hl : Lists a b) (hn : a.length = n) (h : GS a b n mate next i s) {p : List Int} (hp : isFull n p) (hs : partOf a b p = none) (hk : (a.getD s []).getD (next.getD s 0).toNat 0 = k) (hkn : k < n) : rk (a.getD s []) (p.getD s 0) < rk (a.getD s []) k → False := by
  intro q
  have hb := h.bd
  subst hn
  have hss : s < a.length := by omega
  have hlt := h.lt hl rfl
  have hnx := h.nx s hss
  have hnd := (hl.ra s hss).nodup
  have hrk : rk (a.getD s []) k = (next.getD s 0).toNat := by rw [← hk]; exact rk_nodup hnd (by rw [(hl.ra s hss).1]; omega)
  have hpa : p.getD s 0 ∈ a.getD s [] := isFull.mem_ (hl.ra s hss) (hp.at_ hss).1 (hp.at_ hss).2
  obtain ⟨r1, r2, r3⟩ := rk_in hpa
  have hps := hp.at_ hss
  refine h.opt p hp hs s (rk (a.getD s []) (p.getD s 0)).toNat (p.getD s 0).toNat hss (by omega) (by rw [r3]; omega) (h.free (by omega) _ (by omega)) (by omega)
theorem GS.worse2 (hl : Lists a b) (hn : a.length = n) (h : GS a b n mate next i s) {p : List Int} (hp : isFull n p) (hs : partOf a b p = none) (hkn : k < n) {m : Nat} (hm : mate.getD k 0 = m) : rk (a.getD m []) (p.getD m 0) < rk (a.getD m []) k → False := by
  intro q
  have hb := h.bd
  subst hn
  rcases h.m1 k hkn with h0 | ⟨j, h1, h2, h3, h4⟩
  · omega
  obtain rfl : m = j := by omega
  have hmn : m < a.length := by omega
  have hnx := h.nx m hmn
  have hnd := (hl.ra m hmn).nodup
  have hrk : rk (a.getD m []) k = (next.getD m 0 - 1).toNat := by rw [← h4]; exact rk_nodup hnd (by rw [(hl.ra m hmn).1]; omega)
  have hpa : p.getD m 0 ∈ a.getD m [] := isFull.mem_ (hl.ra m hmn) (hp.at_ hmn).1 (hp.at_ hmn).2
  obtain ⟨r1, r2, r3⟩ := rk_in hpa
  have hps := hp.at_ hmn
  have hne : (p.getD m 0).toNat ≠ k := by
    intro e
    have : p.getD m 0 = (k : Int) := by omega
    rw [this] at q; omega
  refine h.opt p hp hs m (rk (a.getD m []) (p.getD m 0)).toNat (p.getD m 0).toNat hmn (by omega) (by rw [r3]; omega) (fun e => hne ?_) (by omega)
  exact h.one (by omega) hkn (by omega) (by omega)
theorem GS.acc (hl : Lists a b) (hn : a.length = n) (h : GS a b n mate next i s) (hk : (a.getD s []).getD (next.getD s 0).toNat 0 = k) (hkn : k < n) (hc : mate.getD k 0 < 0 ∨ rk (b.getD k []) s < rk (b.getD k []) (mate.getD k 0)) :
    GS a b n (mate.set k (s : Int)) (next.set s (next.getD s 0 + 1)) i (mate.getD k 0) := by
  have hb := h.bd
  have hlt := h.lt hl hn
  have hmk := h.mate_in hkn
  have hns := h.nx s (by omega)
  have hfr := h.free (by omega)
  refine ⟨by rw [List.length_set]; exact h.ml, by rw [List.length_set]; exact h.nl, fun j hj => ?_, fun k' hk' => ?_, fun j hj hne => ?_, fun j t k' hj ht he => ?_, ⟨hmk.1, hmk.2, hb.2.2⟩, fun h0 k' hk' e => ?_, fun p hp hs j t k' hj ht he hm => ?_⟩
  · have := h.nx j hj
    rw [next_at h]; split <;> omega
  · rw [mate_at h hkn]
    by_cases q : k' = k
    · rw [if_pos q]
      refine .inr ⟨s, by omega, rfl, by rw [next_at h, if_pos rfl]; omega, ?_⟩
      rw [next_at h, if_pos rfl, show next.getD s 0 + 1 - 1 = next.getD s 0 by omega, hk, q]
    · rw [if_neg q]
      rcases h.m1 k' hk' with e | ⟨j, h1, h2, h3, h4⟩
      · exact .inl e
      · have hjs : j ≠ s := fun e => hfr k' hk' (by rw [h2, e])
        exact .inr ⟨j, h1, h2, by rw [next_at h, if_neg hjs]; exact h3, by rw [next_at h, if_neg hjs]; exact h4⟩
  · by_cases q : j = s
    · exact ⟨k, hkn, by rw [mate_at h hkn, if_pos rfl, q]⟩
    · obtain ⟨k', h1, h2⟩ := h.eng j hj (by omega)
      refine ⟨k', h1, ?_⟩
      have : k' ≠ k := by intro e; rw [e] at h2; exact hne h2.symm
      rw [mate_at h hkn, if_neg this, h2]
  · rw [next_at h] at ht
    have hold : ∀ t : Nat, (t : Int) < next.getD j 0 → (a.getD j []).getD t 0 = k' → (mate.set k (s : Int)).getD k' 0 = j ∨ (0 ≤ (mate.set k (s : Int)).getD k' 0 ∧ rk (b.getD k' []) ((mate.set k (s : Int)).getD k' 0) < rk (b.getD k' []) j) := by
      intro t ht he
      rw [mate_at h hkn]
      by_cases q : k' = k
      · rw [if_pos q]
        subst q
        rcases h.rej j t k' hj ht he with e | ⟨e1, e2⟩
        · rcases hc with hc | hc
          · omega
          · right; rw [e] at hc; exact ⟨by omega, hc⟩
        · rcases hc with hc | hc
          · omega
          · right; exact ⟨by omega, by omega⟩
      · rw [if_neg q]; exact h.rej j t k' hj ht he
    by_cases q : j = s
    · rw [if_pos q] at ht
      by_cases q2 : (t : Int) < next.getD s 0
      · exact hold t (by rw [q]; exact q2) he
      · have htt : t = (next.getD s 0).toNat := by omega
        have : k' = k := by rw [q, htt, hk] at he; omega
        left; rw [this, mate_at h hkn, if_pos rfl, q]
    · rw [if_neg q] at ht
      exact hold t ht he
  · rw [mate_at h hkn] at e
    by_cases q : k' = k
    · rw [if_pos q] at e; exact hfr k hkn e.symm
    · rw [if_neg q] at e
      exact q (h.one hk' hkn (by omega) e)
  · rw [next_at h] at ht
    rw [mate_at h hkn] at hm
    by_cases q : j = s
    · rw [if_pos q] at ht
      by_cases q2 : (t : Int) < next.getD s 0
      · refine h.opt p hp hs j t k' hj (by rw [q]; exact q2) he (fun e => ?_)
        have hk'n : k' < n := by
          subst hn
          have := (hl.ra j hj).at_ (i := t) (by rw [q] at *; omega)
          omega
        exact hfr k' hk'n (by rw [e, q])
      · have htt : t = (next.getD s 0).toNat := by omega
        have : k' = k := by rw [q, htt, hk] at he; omega
        rw [if_pos this] at hm; omega
    · rw [if_neg q] at ht
      by_cases q2 : mate.getD k' 0 = j
      · have hkk : k' = k := by
          rcases Classical.em (k' = k) with e | e
          · exact e
          · rw [if_neg e] at hm; exact absurd q2 hm
        subst hkk
        subst hn
        rcases hc with hc | hc
        · omega
        · rw [q2] at hc
          exact lose hl hp hs (by omega) hj hkn (h.worse hl rfl hp hs hk hkn) hc
      · exact h.opt p hp hs j t k' hj ht he q2
theorem GS.no (hl : Lists a b) (hn : a.length = n) (h : GS a b n mate next i s) (hk : (a.getD s []).getD (next.getD s 0).toNat 0 = k) (hkn : k < n) (hc : ¬ (mate.getD k 0 < 0 ∨ rk (b.getD k []) s < rk (b.getD k []) (mate.getD k 0))) :
    GS a b n mate (next.set s (next.getD s 0 + 1)) i (s : Int) := by
  have hb := h.bd
  have hlt := h.lt hl hn
  have hmk := h.mate_in hkn
  have hns := h.nx s (by omega)
  have hfr := h.free (by omega)
  obtain ⟨m, hm⟩ : ∃ m : Nat, mate.getD k 0 = m := ⟨(mate.getD k 0).toNat, by omega⟩
  have hms : m ≠ s := fun e => hfr k hkn (by rw [hm, e])
  have hbt : rk (b.getD k []) m < rk (b.getD k []) s := by
    subst hn
    have h1 : (m : Int) ∈ b.getD k [] := (hl.rb k hkn).2 m (by omega)
    have h2 : (s : Int) ∈ b.getD k [] := (hl.rb k hkn).2 s (by omega)
    rcases Int.lt_trichotomy (rk (b.getD k []) m) (rk (b.getD k []) s) with q | q | q
    · exact q
    · have := rk_inj h1 h2 q; omega
    · rw [hm] at hc; omega
  refine ⟨h.ml, by rw [List.length_set]; exact h.nl, fun j hj => ?_, fun k' hk' => ?_, h.eng, fun j t k' hj ht he => ?_, hb, h.free, fun p hp hs j t k' hj ht he hmm => ?_⟩
  · have := h.nx j hj
    rw [next_at h]; split <;> omega
  · rcases h.m1 k' hk' with e | ⟨j, h1, h2, h3, h4⟩
    · exact .inl e
    · have hjs : j ≠ s := fun e => hfr k' hk' (by rw [h2, e])
      exact .inr ⟨j, h1, h2, by rw [next_at h, if_neg hjs]; exact h3, by rw [next_at h, if_neg hjs]; exact h4⟩
  · rw [next_at h] at ht
    by_cases q : j = s
    · rw [if_pos q] at ht
      by_cases q2 : (t : Int) < next.getD s 0
      · exact h.rej j t k' hj (by rw [q]; exact q2) he
      · have htt : t = (next.getD s 0).toNat := by omega
        have : k' = k := by rw [q, htt, hk] at he; omega
        subst this
        right; rw [hm, q]; exact ⟨by omega, hbt⟩
    · rw [if_neg q] at ht; exact h.rej j t k' hj ht he
  · rw [next_at h] at ht
    by_cases q : j = s
    · rw [if_pos q] at ht
      by_cases q2 : (t : Int) < next.getD s 0
      · exact h.opt p hp hs j t k' hj (by rw [q]; exact q2) he hmm
      · have htt : t = (next.getD s 0).toNat := by omega
        have : k' = k := by rw [q, htt, hk] at he; omega
        subst this
        rw [q]
        subst hn
        exact lose hl hp hs (by omega) (by omega) hkn (h.worse2 hl rfl hp hs hkn hm) hbt
    · rw [if_neg q] at ht; exact h.opt p hp hs j t k' hj ht he hmm
end
/-- What Best hands back. -/
structure BestOk (a b : List (List Int)) (l : List Int) : Prop where
  full : isFull a.length l
  stay : partOf a b l = none
  best : ∀ p, isFull a.length p → partOf a b p = none → ∀ j : Nat, j < a.length → rk (a.getD j []) (l.getD j 0) ≤ rk (a.getD j []) (p.getD j 0)
theorem GS.full {a b : List (List Int)} {n : Nat} {mate next : List Int} (h : GS a b n mate next n (-1)) : isFull n mate := by
  refine ⟨h.ml, fun j hj => ?_⟩
  obtain ⟨k, h1, h2⟩ := h.eng j hj (by omega)
  rw [← h2]; exact getD_mem (by rw [h.ml]; exact h1)
theorem GS.best {a b : List (List Int)} {n : Nat} {mate next l : List Int} (hl : Lists a b) (hn : a.length = n) (h : GS a b n mate next n (-1)) (h1 : l.length = n) (h2 : ∀ k : Nat, k < n → l.getD (mate.getD k 0).toNat 0 = k) : BestOk a b l := by
  subst hn
  have hfm := h.full
  have hlf : isFull a.length l := ⟨h1, fun k hk => by
    rw [← h2 k hk]
    have := hfm.at_ hk
    exact getD_mem (by omega)⟩
  have hat : ∀ j : Nat, j < a.length → ∃ k : Nat, k < a.length ∧ mate.getD k 0 = j ∧ l.getD j 0 = k ∧ rk (a.getD j []) k = next.getD j 0 - 1 ∧ 1 ≤ next.getD j 0 := by
    intro j hj
    obtain ⟨k, k1, k2⟩ := h.eng j hj (by omega)
    have := h2 k k1
    rw [k2, Int.toNat_natCast] at this
    rcases h.m1 k k1 with q | ⟨j', _, q2, q3, q4⟩
    · omega
    obtain rfl : j = j' := by omega
    have hnx := h.nx j hj
    refine ⟨k, k1, k2, this, ?_, q3⟩
    have := rk_nodup (hl.ra j hj).nodup (i := (next.getD j 0 - 1).toNat) (by rw [(hl.ra j hj).1]; omega)
    rw [q4] at this
    omega
  have hrk : ∀ k : Nat, k < a.length → rk l k = mate.getD k 0 := by
    intro k hk
    have h3 := hfm.at_ hk
    have := rk_nodup hlf.nodup (i := (mate.getD k 0).toNat) (by omega)
    rw [h2 k hk] at this
    omega
  refine ⟨hlf, (part_iff hl.ra hlf).2 fun j hj x hx hlt => ?_, fun p hp hs j hj => ?_⟩
  · obtain ⟨k, k1, k2, k3, k4, k5⟩ := hat j hj
    rw [k3, k4] at hlt
    have hxr := (hl.ra j hj).in_ hx
    obtain ⟨t, t1, t2, t3, _⟩ := rk_mem hx
    have hxn : ((x.toNat : Nat) : Int) = x := by omega
    rcases h.rej j t x.toNat hj (by omega) (by rw [t3, hxn]) with q | ⟨q1, q2⟩
    · have hh := h.one (k := x.toNat) (k' := k) (by omega) k1 (by omega) (by omega)
      rw [← hh, hxn, t1] at k4
      omega
    · have := hrk x.toNat (by omega)
      rw [hxn] at this
      rw [this]
      omega
  · obtain ⟨k, k1, k2, k3, k4, k5⟩ := hat j hj
    rw [k3, k4]
    rcases Int.lt_or_le (rk (a.getD j []) (p.getD j 0)) (next.getD j 0 - 1) with q | q
    · exfalso
      have hpa : p.getD j 0 ∈ a.getD j [] := isFull.mem_ (hl.ra j hj) (hp.at_ hj).1 (hp.at_ hj).2
      obtain ⟨t, t1, t2, t3, _⟩ := rk_mem hpa
      have hps := hp.at_ hj
      refine h.opt p hp hs j t (p.getD j 0).toNat hj (by omega) (by rw [t3]; omega) (fun e => ?_) (by omega)
      have hh := h.one (k := (p.getD j 0).toNat) (k' := k) (by omega) k1 (by omega) (by omega)
      have : p.getD j 0 = k := by omega
      rw [this, k4] at q
      omega
    · exact q
section
variable {a b : List (List Int)} {mate next : List Int} {i : Nat} {x kk : Int}
end
def sumL : List Int → Int
  | [] => 0
  | x :: r => x + sumL r
theorem sumL_le {c : Nat} : ∀ {l : List Int}, (∀ i : Nat, i < l.length → l.getD i 0 ≤ c) → sumL l ≤ ((l.length * c : Nat) : Int)
  | [], _ => by simp [sumL]
  | x :: r, h => by
    have h0 := h 0 (by simp)
    have h1 := sumL_le (c := c) (l := r) (fun i hi => by have := h (i + 1) (by simpa using hi); simpa using this)
    have h0' : x ≤ c := by simpa using h0
    rw [sumL, List.length_cons, Nat.succ_mul]
    omega
theorem GS.sum {a b : List (List Int)} {mate next : List Int} {i : Nat} {x : Int} (h6 : a.length ≤ 6) (h : GS a b a.length mate next i x) : sumL next ≤ 36 := by
  have h1 := sumL_le (c := 6) (l := next) (fun j hj => by have := h.nx j (by rw [← h.nl]; exact hj); omega)
  rw [h.nl] at h1
  have : a.length * 6 ≤ 36 := by omega
  omega
/-! ### All orders -/
def extFrom (l : List Int) : Nat → Nat → List (List Int)
  | _, 0 => []
  | k, m + 1 => (if (0 : Int) ≤ rk l (k : Int) then [] else [l ++ [(k : Int)]]) ++ extFrom l (k + 1) m
def extOf (n : Nat) (l : List Int) : List (List Int) := extFrom l 0 n
def ordStep (n : Nat) : List (List Int) → List (List Int)
  | [] => []
  | l :: r => extOf n l ++ ordStep n r
def ordIter (n : Nat) : Nat → List (List Int)
  | 0 => [[]]
  | r + 1 => ordStep n (ordIter n r)
def ordersOf (n : Nat) : List (List Int) := ordIter n n
theorem extFrom_step {l : List Int} {k n : Nat} (h : k < n) : extFrom l k (n - k) = (if (0 : Int) ≤ rk l (k : Int) then [] else [l ++ [(k : Int)]]) ++ extFrom l (k + 1) (n - (k + 1)) := by
  rw [show n - k = (n - (k + 1)) + 1 by omega]; rfl
theorem extFrom_end {l : List Int} {k n : Nat} (h : n ≤ k) : extFrom l k (n - k) = [] := by rw [show n - k = 0 by omega]; rfl
theorem ordStep_drop {n : Nat} {o : List (List Int)} {j : Nat} (h : j < o.length) : ordStep n (o.drop j) = extOf n (o.getD j []) ++ ordStep n (o.drop (j + 1)) := by
  rw [drop_getD o [] j h]; rfl
theorem ordStep_end {n : Nat} {o : List (List Int)} {j : Nat} (h : o.length ≤ j) : ordStep n (o.drop j) = [] := by rw [List.drop_of_length_le h]; rfl
theorem ext_mem {l q : List Int} : ∀ {m k : Nat}, q ∈ extFrom l k m ↔ ∃ j : Nat, k ≤ j ∧ j < k + m ∧ ((j : Nat) : Int) ∉ l ∧ q = l ++ [(j : Int)]
  | 0, k => by simp [extFrom]; omega
  | m + 1, k => by
    rw [extFrom, List.mem_append, ext_mem (m := m) (k := k + 1)]
    constructor
    · rintro (h | ⟨j, h1, h2, h3, h4⟩)
      · split at h
        · cases h
        · rename_i hr
          rw [List.mem_singleton] at h
          exact ⟨k, by omega, by omega, fun hm => hr (mem_rk.1 hm), h⟩
      · exact ⟨j, by omega, by omega, h3, h4⟩
    · rintro ⟨j, h1, h2, h3, h4⟩
      by_cases e : j = k
      · left
        subst e
        rw [if_neg (fun q => h3 (mem_rk.2 q)), List.mem_singleton]; exact h4
      · right; exact ⟨j, by omega, by omega, h3, h4⟩
theorem ordStep_mem {n : Nat} {q : List Int} : ∀ {o : List (List Int)}, q ∈ ordStep n o ↔ ∃ l ∈ o, q ∈ extOf n l
  | [] => by simp [ordStep]
  | l :: r => by
    rw [ordStep, List.mem_append, ordStep_mem (o := r)]
    simp
theorem ordIter_mem {n : Nat} : ∀ {r : Nat} {q : List Int}, q ∈ ordIter n r ↔ q.length = r ∧ q.Nodup ∧ ∀ x ∈ q, 0 ≤ x ∧ x < n
  | 0, q => by
    rw [ordIter, List.mem_singleton]
    constructor
    · rintro rfl; exact ⟨rfl, List.nodup_nil, fun x hx => by cases hx⟩
    · rintro ⟨h, _⟩; exact List.eq_nil_of_length_eq_zero h
  | r + 1, q => by
    rw [ordIter, ordStep_mem]
    constructor
    · rintro ⟨l, hl, hq⟩
      obtain ⟨j, _, h2, h3, rfl⟩ := ext_mem.1 hq
      obtain ⟨g1, g2, g3⟩ := ordIter_mem.1 hl
      refine ⟨by simp [g1], ?_, fun x hx => ?_⟩
      · rw [List.nodup_append]
        refine ⟨g2, by simp, fun x hx y hy e => ?_⟩
        rw [List.mem_singleton] at hy
        rw [e, hy] at hx
        exact h3 hx
      · rcases List.mem_append.1 hx with h | h
        · exact g3 x h
        · rw [List.mem_singleton] at h; omega
    · rintro ⟨h1, h2, h3⟩
      have hne : q ≠ [] := by intro e; rw [e] at h1; cases h1
      have hq := List.dropLast_concat_getLast hne
      have hx := h3 _ (List.getLast_mem hne)
      refine ⟨q.dropLast, ordIter_mem.2 ⟨by rw [List.length_dropLast]; omega, ?_, fun x hx => h3 x ((List.dropLast_sublist q).subset hx)⟩, ext_mem.2 ⟨(q.getLast hne).toNat, by omega, by omega, ?_, ?_⟩⟩
      · exact (List.dropLast_sublist q).nodup h2
      · rw [← hq, List.nodup_append] at h2
        intro hm
        exact h2.2.2 _ hm (q.getLast hne) (by simp) (by omega)
      · rw [show (((q.getLast hne).toNat : Nat) : Int) = q.getLast hne by omega]; exact hq.symm
theorem orders_mem {n : Nat} {q : List Int} : q ∈ ordersOf n ↔ isFull n q := by
  unfold ordersOf
  rw [ordIter_mem]
  constructor
  · rintro ⟨h1, h2, h3⟩
    refine ⟨h1, fun k hk => ?_⟩
    have := perm_of_sub q (idsOf n) h2 (fun x hx => ids_mem.2 ⟨x.toNat, by have := h3 x hx; omega, by have := h3 x hx; omega⟩) (by rw [ids_len, h1]; exact Nat.le_refl _)
    exact this.mem_iff.2 (ids_mem.2 ⟨k, hk, rfl⟩)
  · intro h
    exact ⟨h.1, h.nodup, fun x hx => h.in_ hx⟩
theorem ext_len {l : List Int} : ∀ (m k : Nat), (extFrom l k m).length ≤ m
  | 0, k => by simp [extFrom]
  | m + 1, k => by
    have := ext_len (l := l) m (k + 1)
    rw [extFrom, List.length_append]
    split <;> simp only [List.length_cons, List.length_nil] <;> omega
theorem ordStep_len {n : Nat} : ∀ (o : List (List Int)), (ordStep n o).length ≤ o.length * n
  | [] => by simp [ordStep]
  | l :: r => by
    have h1 := ordStep_len (n := n) r
    have h2 : (extOf n l).length ≤ n := ext_len n 0
    rw [ordStep, List.length_append, List.length_cons, Nat.succ_mul]
    omega
theorem ordIter_len {n : Nat} (hn : n ≤ 6) : ∀ r, (ordIter n r).length ≤ 6 ^ r
  | 0 => by simp [ordIter]
  | r + 1 => by
    have h1 := ordIter_len hn r
    have h2 := ordStep_len (n := n) (ordIter n r)
    rw [ordIter, Nat.pow_succ]
    exact Nat.le_trans h2 (Nat.mul_le_mul h1 hn)
end Go.Ab
