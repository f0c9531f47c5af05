/- Of pairs that stay: the plain laws. -/
import Derived.Test.YtoghkabjfpolbaaPlSort
namespace Go.Ab
def rk (l : List Int) (x : Int) : Int := idxOf (fun y => decide (x = y)) l
theorem rk_ge (l : List Int) (x : Int) : -1 ≤ rk l x ∧ rk l x < l.length := idxOf_ge
theorem rk_at {l : List Int} {x : Int} {i : Nat} (h : ∀ j, j < i → l.getD j 0 ≠ x) (hi : i < l.length) (hx : l.getD i 0 = x) : rk l x = i :=
  idxOf_at (d := 0) (fun j hj => decide_eq_false (fun q => h j hj q.symm)) hi (decide_eq_true hx.symm)
theorem rk_none {l : List Int} {x : Int} (h : ∀ j, j < l.length → l.getD j 0 ≠ x) : rk l x = -1 :=
  idxOf_none (d := 0) (fun j hj => decide_eq_false (fun q => h j hj q.symm))
theorem rk_mem {l : List Int} {x : Int} (h : x ∈ l) : ∃ i : Nat, rk l x = i ∧ i < l.length ∧ l.getD i 0 = x ∧ ∀ j, j < i → l.getD j 0 ≠ x := by
  induction l with
  | nil => cases h
  | cons y r ih =>
    by_cases q : y = x
    · exact ⟨0, rk_at (fun j hj => by omega) (by simp) (by simpa using q), by simp, by simpa using q, fun j hj => by omega⟩
    · have hr : x ∈ r := by
        rcases List.mem_cons.1 h with h | h
        · exact absurd h.symm q
        · exact h
      obtain ⟨i, h1, h2, h3, h4⟩ := ih hr
      have h5 : ∀ j, j < i + 1 → (y :: r).getD j 0 ≠ x := by
        intro j hj
        cases j with
        | zero => simpa using q
        | succ j => simpa using h4 j (by omega)
      exact ⟨i + 1, rk_at h5 (by simp; omega) (by simpa using h3), by simp; omega, by simpa using h3, h5⟩
theorem rk_in {l : List Int} {x : Int} (h : x ∈ l) : 0 ≤ rk l x ∧ rk l x < l.length ∧ l.getD (rk l x).toNat 0 = x := by
  obtain ⟨i, h1, h2, h3, _⟩ := rk_mem h
  rw [h1]
  exact ⟨by omega, by omega, by simpa using h3⟩
theorem rk_before {l : List Int} {x : Int} (h : x ∈ l) {j : Nat} (hj : (j : Int) < rk l x) : l.getD j 0 ≠ x := by
  obtain ⟨i, h1, _, _, h4⟩ := rk_mem h
  exact h4 j (by omega)
theorem mem_rk {l : List Int} {x : Int} : x ∈ l ↔ 0 ≤ rk l x := by
  constructor
  · intro h; exact (rk_in h).1
  · intro h
    rcases Classical.em (x ∈ l) with q | q
    · exact q
    · rw [rk_none (fun j hj e => q (by rw [← e]; exact getD_mem hj))] at h
      omega
/-! ### The lists of both sides -/
def allFull (n : Nat) (ls : List (List Int)) : Bool := ls.all (fullB n)
theorem allFull_drop {n : Nat} {ls : List (List Int)} {i : Nat} (h : i < ls.length) : allFull n (ls.drop i) = (fullB n (ls.getD i []) && allFull n (ls.drop (i + 1))) := by
  rw [drop_getD ls [] i h]; rfl
theorem allFull_end {n : Nat} {ls : List (List Int)} {i : Nat} (h : ls.length ≤ i) : allFull n (ls.drop i) = true := by rw [List.drop_of_length_le h]; rfl
def listErr (a b : List (List Int)) : Int := if 6 < a.length then 2 else if a.length ≠ b.length then 3 else if allFull a.length (a ++ b) = true then 0 else 3
structure Lists (a b : List (List Int)) : Prop where
  small : a.length ≤ 6
  len : b.length = a.length
  ra : ∀ i, i < a.length → isFull a.length (a.getD i [])
  rb : ∀ i, i < a.length → isFull a.length (b.getD i [])
theorem listErr_ok {a b : List (List Int)} (h : listErr a b = 0) : Lists a b := by
  unfold listErr at h
  split at h
  · cases h
  rename_i h1
  split at h
  · cases h
  rename_i h2
  split at h
  · rename_i h3
    have h4 := List.all_eq_true.1 h3
    refine ⟨by omega, by omega, fun i hi => ?_, fun i hi => ?_⟩
    · exact fullB_iff.1 (h4 _ (List.mem_append_left _ (getD_mem hi)))
    · exact fullB_iff.1 (h4 _ (List.mem_append_right _ (getD_mem (by omega))))
  · cases h
/-! ### Who would rather go -/
def blockAt (b : List (List Int)) (p : List Int) (i k : Int) : Bool := decide (rk (b.getD k.toNat []) i < rk (b.getD k.toNat []) (rk p k))
def rowFind (b : List (List Int)) (p : List Int) (i : Int) : List Int → Option Int
  | [] => none
  | k :: r => if blockAt b p i k = true then some k else rowFind b p i r
theorem rowFind_drop {b : List (List Int)} {p : List Int} {i : Int} {l : List Int} {j : Nat} (h : j < l.length) : rowFind b p i (l.drop j) = if blockAt b p i (l.getD j 0) = true then some (l.getD j 0) else rowFind b p i (l.drop (j + 1)) := by
  rw [drop_getD l 0 j h]; rfl
theorem rowFind_end {b : List (List Int)} {p : List Int} {i : Int} {l : List Int} {j : Nat} (h : l.length ≤ j) : rowFind b p i (l.drop j) = none := by rw [List.drop_of_length_le h]; rfl
/-- Those whom a row would rather have. -/
def before (r : List Int) (x : Int) : List Int := r.take (rk r x).toNat
def partFrom (b : List (List Int)) (p : List Int) : Nat → List (List Int) → Option (Int × Int)
  | _, [] => none
  | i, r :: q => match rowFind b p i (before r (p.getD i 0)) with
    | some k => some ((i : Int), k)
    | none => partFrom b p (i + 1) q
def partOf (a b : List (List Int)) (p : List Int) : Option (Int × Int) := partFrom b p 0 a
theorem partFrom_some {a b : List (List Int)} {p : List Int} {i : Nat} {k : Int} (hi : i < a.length) (h : rowFind b p i (before (a.getD i []) (p.getD i 0)) = some k) : partFrom b p i (a.drop i) = some ((i : Int), k) := by
  rw [drop_getD a [] i hi, partFrom, h]
theorem partFrom_none {a b : List (List Int)} {p : List Int} {i : Nat} (hi : i < a.length) (h : rowFind b p i (before (a.getD i []) (p.getD i 0)) = none) : partFrom b p i (a.drop i) = partFrom b p (i + 1) (a.drop (i + 1)) := by
  rw [drop_getD a [] i hi, partFrom, h]
theorem partFrom_end {a b : List (List Int)} {p : List Int} {i : Nat} (h : a.length ≤ i) : partFrom b p i (a.drop i) = none := by rw [List.drop_of_length_le h]; rfl
def po1 (o : Option (Int × Int)) : Int := match o with | some x => x.1 | none => 0
def po2 (o : Option (Int × Int)) : Int := match o with | some x => x.2 | none => 0
/-- The error of Pair: 5 if nobody would rather go. -/
def pairErr (a b : List (List Int)) (p : List Int) : Int := if listErr a b ≠ 0 then listErr a b else if fullB a.length p = true then (if (partOf a b p).isSome = true then 0 else 5) else 3
def pairI (a b : List (List Int)) (p : List Int) : Int := if pairErr a b p = 0 then po1 (partOf a b p) else 0
def pairK (a b : List (List Int)) (p : List Int) : Int := if pairErr a b p = 0 then po2 (partOf a b p) else 0
def pairsErr (a b : List (List Int)) (p : List Int) : Int := if listErr a b ≠ 0 then listErr a b else if fullB a.length p = true then 0 else 3
theorem listErr_cases (a b : List (List Int)) : listErr a b = 0 ∨ listErr a b = 2 ∨ listErr a b = 3 := by
  unfold listErr; split
  · omega
  · split
    · omega
    · split <;> omega
theorem pairsErr_cases (a b : List (List Int)) (p : List Int) : pairsErr a b p = 0 ∨ pairsErr a b p = 2 ∨ pairsErr a b p = 3 := by
  have := listErr_cases a b
  unfold pairsErr; split
  · omega
  · split <;> omega
theorem pairsErr_ok {a b : List (List Int)} {p : List Int} (h : pairsErr a b p = 0) : listErr a b = 0 ∧ isFull a.length p := by
  unfold pairsErr at h
  split at h
  · rename_i h1; exact absurd h h1
  rename_i h1
  split at h
  · rename_i h2; exact ⟨by omega, fullB_iff.1 h2⟩
  · cases h
theorem pairErr_eq (a b : List (List Int)) (p : List Int) : pairErr a b p = if pairsErr a b p ≠ 0 then pairsErr a b p else if (partOf a b p).isSome = true then 0 else 5 := by
  unfold pairErr pairsErr
  by_cases h1 : listErr a b ≠ 0
  · rw [if_pos h1, if_pos h1, if_pos h1]
  · rw [if_neg h1, if_neg h1]
    by_cases h2 : fullB a.length p = true
    · rw [if_pos h2, if_pos h2]; rfl
    · rw [if_neg h2, if_neg h2]; rfl
theorem pairErr_no {a b : List (List Int)} {p : List Int} (h : pairsErr a b p ≠ 0) : pairErr a b p = pairsErr a b p := by rw [pairErr_eq, if_pos h]
theorem pairErr_some {a b : List (List Int)} {p : List Int} {x : Int × Int} (h : pairsErr a b p = 0) (hs : partOf a b p = some x) : pairErr a b p = 0 := by rw [pairErr_eq, if_neg (by omega), hs]; rfl
theorem pairErr_none {a b : List (List Int)} {p : List Int} (h : pairsErr a b p = 0) (hs : partOf a b p = none) : pairErr a b p = 5 := by rw [pairErr_eq, if_neg (by omega), hs]; rfl
theorem pair_law {a b : List (List Int)} {p : List Int} (h : pairsErr a b p = 0) : (((((Option.isSome (partOf a b p)) == (decide ((pairErr a b p) = 0))) && ((Option.isSome (partOf a b p)) || (decide ((pairErr a b p) = 5)))) && (decide ((pairI a b p) = (po1 (partOf a b p))))) && (decide ((pairK a b p) = (po2 (partOf a b p))))) = true := by
  cases e : partOf a b p with
  | none =>
    have h1 := pairErr_none h e
    simp [pairI, pairK, h1, po1, po2]
  | some x =>
    have h1 := pairErr_some h e
    simp [pairI, pairK, h1, e]
theorem isFull.mem_ {n : Nat} {l : List Int} (h : isFull n l) {x : Int} (h0 : 0 ≤ x) (h1 : x < n) : x ∈ l := by
  have := h.2 x.toNat (by omega)
  rwa [Int.toNat_of_nonneg h0] at this
/-- Of the pairs that stay: what the errors of both are. -/
def stayErr (a b : List (List Int)) (p : List Int) (e : Int) : Int := if e ≠ 0 then e else if fullB a.length p = true then (if (partOf a b p).isSome = true then 9 else 0) else 3
def bothErr2 (a b : List (List Int)) (p q : List Int) : Int := stayErr a b q (stayErr a b p (listErr a b))
def betterAt (r : List Int) (x y : Int) : Int := r.getD (min (rk r x) (rk r y)).toNat 0
def worseAt (r : List Int) (x y : Int) : Int := r.getD (max (rk r x) (rk r y)).toNat 0
def betters (a : List (List Int)) (p q : List Int) : List Int := (List.range a.length).map fun i => betterAt (a.getD i []) (p.getD i 0) (q.getD i 0)
def worses (a : List (List Int)) (p q : List Int) : List Int := (List.range a.length).map fun i => worseAt (a.getD i []) (p.getD i 0) (q.getD i 0)
theorem betters_len (a : List (List Int)) (p q : List Int) : (betters a p q).length = a.length := by simp [betters]
theorem worses_len (a : List (List Int)) (p q : List Int) : (worses a p q).length = a.length := by simp [worses]
theorem betters_at {a : List (List Int)} {p q : List Int} {i : Nat} (h : i < a.length) : (betters a p q).getD i 0 = betterAt (a.getD i []) (p.getD i 0) (q.getD i 0) := by
  rw [getD_lt (betters a p q) 0 i (by rw [betters_len]; exact h)]; simp [betters]
theorem worses_at {a : List (List Int)} {p q : List Int} {i : Nat} (h : i < a.length) : (worses a p q).getD i 0 = worseAt (a.getD i []) (p.getD i 0) (q.getD i 0) := by
  rw [getD_lt (worses a p q) 0 i (by rw [worses_len]; exact h)]; simp [worses]
theorem better_le {r : List Int} {x y : Int} (hx : x ∈ r) (hy : y ∈ r) (h : rk r x ≤ rk r y) : betterAt r x y = x ∧ worseAt r x y = y := by
  unfold betterAt worseAt
  rw [show min (rk r x) (rk r y) = rk r x by omega, show max (rk r x) (rk r y) = rk r y by omega]
  exact ⟨(rk_in hx).2.2, (rk_in hy).2.2⟩
theorem better_gt {r : List Int} {x y : Int} (hx : x ∈ r) (hy : y ∈ r) (h : ¬ rk r x ≤ rk r y) : betterAt r x y = y ∧ worseAt r x y = x := by
  unfold betterAt worseAt
  rw [show min (rk r x) (rk r y) = rk r y by omega, show max (rk r x) (rk r y) = rk r x by omega]
  exact ⟨(rk_in hy).2.2, (rk_in hx).2.2⟩
theorem stay_ok {a b : List (List Int)} {p : List Int} {e : Int} (h : stayErr a b p e = 0) : e = 0 ∧ isFull a.length p ∧ (partOf a b p).isSome = false := by
  unfold stayErr at h
  split at h
  · rename_i h1; exact absurd h h1
  rename_i h1
  split at h
  · rename_i h2
    split at h
    · cases h
    · rename_i h3
      exact ⟨by omega, fullB_iff.1 h2, by simpa using h3⟩
  · cases h
theorem getD_take {α : Type} (l : List α) (n j : Nat) {d : α} (h : j < n) : (l.take n).getD j d = l.getD j d := by
  simp only [List.getD_eq_getElem?_getD, List.getElem?_take, if_pos h]
def refusedOf (e : Int) : Int := if e = 0 then 9 else e
theorem pair_none {a b : List (List Int)} {p : List Int} (h : pairErr a b p = 5) : Lists a b ∧ isFull a.length p ∧ partOf a b p = none := by
  have hc := pairsErr_cases a b p
  rw [pairErr_eq] at h
  split at h
  · omega
  · rename_i h1
    split at h
    · cases h
    · rename_i h2
      obtain ⟨h3, h4⟩ := pairsErr_ok (show pairsErr a b p = 0 by omega)
      refine ⟨listErr_ok h3, h4, ?_⟩
      cases e : partOf a b p
      · rfl
      · rw [e] at h2; exact absurd rfl h2
theorem stay_eq (a b : List (List Int)) (p : List Int) : stayErr a b p (listErr a b) = if pairErr a b p = 5 then 0 else refusedOf (pairErr a b p) := by
  have hc := listErr_cases a b
  unfold stayErr pairErr refusedOf
  by_cases h1 : listErr a b ≠ 0
  · rw [if_pos h1, if_pos h1, if_neg (by omega), if_neg h1]
  · rw [if_neg h1, if_neg h1]
    by_cases h2 : fullB a.length p = true
    · rw [if_pos h2, if_pos h2]
      by_cases h3 : (partOf a b p).isSome = true
      · rw [if_pos h3, if_pos h3]; rfl
      · rw [if_neg h3, if_neg h3]; rfl
    · rw [if_neg h2, if_neg h2]; rfl
theorem refused_pos {a b : List (List Int)} {p : List Int} : refusedOf (pairErr a b p) ≠ 0 := by
  unfold refusedOf; split <;> omega
theorem stay_none {a b : List (List Int)} {p : List Int} (h : pairErr a b p = 5) : stayErr a b p (listErr a b) = 0 := by rw [stay_eq, if_pos h]
theorem stay_ref {a b : List (List Int)} {p q : List Int} (h : pairErr a b p ≠ 5) : bothErr2 a b p q = refusedOf (pairErr a b p) ∧ refusedOf (pairErr a b p) ≠ 0 := by
  have h2 := refused_pos (a := a) (b := b) (p := p)
  refine ⟨?_, h2⟩
  unfold bothErr2
  rw [stay_eq, if_neg h, stayErr, if_pos h2]
theorem stay_ref2 {a b : List (List Int)} {p q : List Int} (h0 : pairErr a b p = 5) (h : pairErr a b q ≠ 5) : bothErr2 a b p q = refusedOf (pairErr a b q) ∧ refusedOf (pairErr a b q) ≠ 0 := by
  have h2 := refused_pos (a := a) (b := b) (p := q)
  refine ⟨?_, h2⟩
  have hl := (pair_none h0).1
  have hl0 : listErr a b = 0 := by
    have := stay_none h0
    unfold stayErr at this
    split at this
    · rename_i h1; exact absurd this h1
    · rename_i h1; omega
  unfold bothErr2
  rw [stay_none h0, ← hl0, stay_eq, if_neg h]
theorem both_none {a b : List (List Int)} {p q : List Int} (h0 : pairErr a b p = 5) (h : pairErr a b q = 5) : bothErr2 a b p q = 0 := by
  have hl0 : listErr a b = 0 := by
    have := stay_none h0
    unfold stayErr at this
    split at this
    · rename_i h1; exact absurd this h1
    · rename_i h1; omega
  unfold bothErr2
  rw [stay_none h0]
  have := stay_none h
  rw [hl0] at this
  exact this
theorem set_fill {x : List Int} {n i : Nat} {f : Nat → Int} {v : Int} (hi : i < n) (h : x.length = n ∧ ∀ j, j < i → x.getD j 0 = f j) (hv : v = f i) : (x.set i v).length = n ∧ ∀ j, j < i + 1 → (x.set i v).getD j 0 = f j := by
  refine ⟨by rw [List.length_set]; exact h.1, fun j hj => ?_⟩
  by_cases q : j = i
  · rw [q, getD_set_self _ _ _ _ (by rw [h.1]; exact hi), hv]
  · rw [getD_set_ne _ _ _ _ _ (Ne.symm q)]; exact h.2 j (by omega)
theorem both_ok {a b : List (List Int)} {p q : List Int} (h : bothErr2 a b p q = 0) : Lists a b ∧ isFull a.length p ∧ isFull a.length q := by
  obtain ⟨h1, h2, _⟩ := stay_ok h
  obtain ⟨h3, h4, _⟩ := stay_ok h1
  exact ⟨listErr_ok h3, h4, h2⟩
/-- The errors of several, one behind the other. -/
def stayAll (a b : List (List Int)) (e : Int) : List (List Int) → Int
  | [] => e
  | l :: r => stayAll a b (stayErr a b l e) r
theorem stayAll_drop {a b : List (List Int)} {e : Int} {ls : List (List Int)} {i : Nat} (h : i < ls.length) : stayAll a b e (ls.drop i) = stayAll a b (stayErr a b (ls.getD i []) e) (ls.drop (i + 1)) := by
  rw [drop_getD ls [] i h]; rfl
end Go.Ab
