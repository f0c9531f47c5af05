/- Of pushes: the checks, what is sent, what is lifted: the plain laws. -/
import Derived.Test.YtdglhalkilneaaaPlFlow2
import Derived.Test.YtdglhalkilneaaaPlPush
import Derived.Test.YtdglhalkilneaaaPlIdx
namespace Go.Ab
theorem any_range {p : Nat → Bool} {n : Nat} : (List.range n).any p = true ↔ ∃ k, k < n ∧ p k = true := by
  rw [List.any_eq_true]
  constructor
  · rintro ⟨k, h1, h2⟩; exact ⟨k, List.mem_range.1 h1, h2⟩
  · rintro ⟨k, h1, h2⟩; exact ⟨k, List.mem_range.2 h1, h2⟩
theorem any_range_no {p : Nat → Bool} {n : Nat} (h : ∀ k, k < n → p k = false) : (List.range n).any p = false := by
  cases e : (List.range n).any p
  · rfl
  · obtain ⟨k, h1, h2⟩ := any_range.1 e
    rw [h k h1] at h2; cases h2
/-- From a node goes more than comes. -/
def leakAt (s : Int) (es : List Arc) (f : List Int) (k : Nat) : Bool := decide ((k : Int) ≠ s ∧ 0 < gone es f (k : Int))
def leak (n s : Int) (es : List Arc) (f : List Int) : Bool := (List.range n.toNat).any (leakAt s es f)
/-- A height that may not be. -/
def highAt (n s t : Int) (h : List Int) (k : Nat) : Bool := decide (h.getD k 0 < 0 ∨ 2 * n < h.getD k 0 ∨ ((k : Int) = s ∧ h.getD k 0 ≠ n) ∨ ((k : Int) = t ∧ h.getD k 0 ≠ 0))
def high (n s t : Int) (h : List Int) : Bool := (List.range n.toNat).any (highAt n s t h)
/-- The steps that can be gone by what is left. -/
def stepsOf : List Arc → List Int → List Arc
  | a :: r, x :: q => (if x < a.cap then [⟨a.src, a.dst, a.cap - x⟩] else []) ++ (if 0 < x then [⟨a.dst, a.src, x⟩] else []) ++ stepsOf r q
  | _, _ => []
theorem steps_drop {es : List Arc} {f : List Int} {i : Nat} (h1 : i < es.length) (h2 : f.length = es.length) :
    stepsOf (es.drop i) (f.drop i) = (if f.getD i 0 < (es.getD i default).cap then [⟨(es.getD i default).src, (es.getD i default).dst, (es.getD i default).cap - f.getD i 0⟩] else []) ++ (if 0 < f.getD i 0 then [⟨(es.getD i default).dst, (es.getD i default).src, f.getD i 0⟩] else []) ++ stepsOf (es.drop (i + 1)) (f.drop (i + 1)) := by
  rw [drop_getD es default i h1, drop_getD f 0 i (by omega)]
  rfl
theorem steps_end {es : List Arc} {f : List Int} {i : Nat} (h : es.length ≤ i) : stepsOf (es.drop i) (f.drop i) = [] := by rw [List.drop_of_length_le h]; rfl
theorem steps_len : ∀ (es : List Arc) (f : List Int), (stepsOf es f).length ≤ 2 * es.length
  | [], _ => by simp [stepsOf]
  | a :: r, [] => by simp [stepsOf]
  | a :: r, x :: q => by
    have := steps_len r q
    simp only [stepsOf, List.length_append, List.length_cons]
    split <;> split <;> simp only [List.length_cons, List.length_nil] <;> omega
theorem steps_in {n : Int} : ∀ {es : List Arc} {f : List Int}, (∀ a ∈ es, 0 ≤ a.src ∧ a.src < n ∧ 0 ≤ a.dst ∧ a.dst < n) → ∀ a ∈ stepsOf es f, 0 ≤ a.src ∧ a.src < n ∧ 0 ≤ a.dst ∧ a.dst < n
  | [], _, _, a, ha => by simp [stepsOf] at ha
  | b :: r, [], _, a, ha => by simp [stepsOf] at ha
  | b :: r, x :: q, h, a, ha => by
    obtain ⟨h1, h2, h3, h4⟩ := h b List.mem_cons_self
    simp only [stepsOf, List.mem_append] at ha
    rcases ha with (ha | ha) | ha
    · split at ha
      · rw [List.mem_singleton] at ha; subst ha; exact ⟨h1, h2, h3, h4⟩
      · cases ha
    · split at ha
      · rw [List.mem_singleton] at ha; subst ha; exact ⟨h3, h4, h1, h2⟩
      · cases ha
    · exact steps_in (fun c hc => h c (List.mem_cons_of_mem _ hc)) a ha
def steepA (h : List Int) (a : Arc) : Bool := decide (h.getD a.dst.toNat 0 + 1 < h.getD a.src.toNat 0)
def steep (es : List Arc) (f h : List Int) : Bool := (stepsOf es f).any (steepA h)
theorem steep_drop {es : List Arc} {f h : List Int} {i : Nat} (h1 : i < es.length) (h2 : f.length = es.length) :
    steep (es.drop i) (f.drop i) h = ((decide (f.getD i 0 < (es.getD i default).cap) && decide (h.getD (es.getD i default).dst.toNat 0 + 1 < h.getD (es.getD i default).src.toNat 0)) || (decide (0 < f.getD i 0) && decide (h.getD (es.getD i default).src.toNat 0 + 1 < h.getD (es.getD i default).dst.toNat 0)) || steep (es.drop (i + 1)) (f.drop (i + 1)) h) := by
  unfold steep
  rw [steps_drop h1 h2, List.any_append, List.any_append]
  congr 2
  · by_cases hc : f.getD i 0 < (es.getD i default).cap
    · rw [if_pos hc, decide_eq_true hc]; simp [steepA]
    · rw [if_neg hc, decide_eq_false hc]; simp
  · by_cases hc : 0 < f.getD i 0
    · rw [if_pos hc, decide_eq_true hc]; simp [steepA]
    · rw [if_neg hc, decide_eq_false hc]; simp
theorem steep_end {es : List Arc} {f h : List Int} {i : Nat} (hi : es.length ≤ i) : steep (es.drop i) (f.drop i) h = false := by unfold steep; rw [steps_end hi]; rfl
def pushErr (n s t : Int) (es : List Arc) (f h : List Int) : Int :=
  if netErr n s t es ≠ 0 then netErr n s t es else if f.length ≠ es.length ∨ (h.length : Int) ≠ n then 3 else if over es f = true then 7 else if leak n s es f = true then 8 else if high n s t h = true then 1 else if steep es f h = true then 9 else 0
structure PushRight (n s t : Int) (es : List Arc) (f h : List Int) : Prop where
  net : NOk n s t es
  fin : FIn es f
  hlen : (h.length : Int) = n
  leak_ : ∀ k : Nat, (k : Int) < n → (k : Int) ≠ s → gone es f (k : Int) ≤ 0
  high_ : ∀ k : Nat, (k : Int) < n → 0 ≤ h.getD k 0 ∧ h.getD k 0 ≤ 2 * n
theorem pushErr_ok {n s t : Int} {es : List Arc} {f h : List Int} (he : pushErr n s t es f h = 0) : PushRight n s t es f h := by
  unfold pushErr at he
  split at he
  · rename_i h1; exact absurd he h1
  rename_i h1
  split at he
  · cases he
  rename_i h2
  split at he
  · cases he
  rename_i h3
  split at he
  · cases he
  rename_i h4
  split at he
  · cases he
  rename_i h5
  refine ⟨netErr_ok (Decidable.not_not.1 h1), over_in (by omega) (by simpa using h3), by omega, fun k hk hs => ?_, fun k hk => ?_⟩
  · rcases Int.lt_or_le 0 (gone es f (k : Int)) with hg | hg
    · exact absurd (any_range.2 ⟨k, by omega, decide_eq_true ⟨hs, hg⟩⟩) h4
    · exact hg
  · rcases Int.lt_or_le (h.getD k 0) 0 with hg | hg
    · exact absurd (any_range.2 ⟨k, by omega, decide_eq_true (.inl hg)⟩) h5
    · rcases Int.lt_or_le (2 * n) (h.getD k 0) with hg2 | hg2
      · exact absurd (any_range.2 ⟨k, by omega, decide_eq_true (.inr (.inl hg2))⟩) h5
      · exact ⟨hg, hg2⟩
/-- What waits at each node. -/
def waitOf (n : Int) (es : List Arc) (f : List Int) : List Int := (List.range n.toNat).map fun (k : Nat) => - gone es f (k : Int)
theorem waitOf_at {n : Int} {es : List Arc} {f : List Int} {k : Nat} (hk : k < n.toNat) : (waitOf n es f).getD k 0 = - gone es f (k : Int) := by
  unfold waitOf
  rw [getD_lt ((List.range n.toNat).map _) 0 k (by simpa using hk)]
  simp
theorem waitOf_len (n : Int) (es : List Arc) (f : List Int) : (waitOf n es f).length = n.toNat := by simp [waitOf]
/-- The numbers behind the first arcs. -/
structure Waits (n : Int) (es : List Arc) (f m : List Int) (i : Nat) : Prop where
  len : m.length = n.toNat
  at_ : ∀ k, k < n.toNat → m.getD k 0 = gone (es.drop i) (f.drop i) (k : Int) - gone es f (k : Int)
  lo : ∀ k, k < n.toNat → -(10000 * (i : Int)) ≤ m.getD k 0 ∧ m.getD k 0 ≤ 10000 * (i : Int)
theorem Waits.step {n : Int} {es : List Arc} {f m : List Int} {i : Nat} (h : Waits n es f m i) (hlen : f.length = es.length) (hi : i < es.length)
    (a1 : 0 ≤ (es.getD i default).src) (a2 : (es.getD i default).src < n) (a3 : 0 ≤ (es.getD i default).dst) (a4 : (es.getD i default).dst < n) (x0 : 0 ≤ f.getD i 0) (x1 : f.getD i 0 ≤ 10000) :
    Waits n es f ((m.set (es.getD i default).src.toNat (m.getD (es.getD i default).src.toNat 0 - f.getD i 0)).set (es.getD i default).dst.toNat
      ((m.set (es.getD i default).src.toNat (m.getD (es.getD i default).src.toNat 0 - f.getD i 0)).getD (es.getD i default).dst.toNat 0 + f.getD i 0)) (i + 1) := by
  have hm := h.len
  have key : ∀ k, k < n.toNat → ((m.set (es.getD i default).src.toNat (m.getD (es.getD i default).src.toNat 0 - f.getD i 0)).set (es.getD i default).dst.toNat
      ((m.set (es.getD i default).src.toNat (m.getD (es.getD i default).src.toNat 0 - f.getD i 0)).getD (es.getD i default).dst.toNat 0 + f.getD i 0)).getD k 0 =
      m.getD k 0 - (if (es.getD i default).src = (k : Int) then f.getD i 0 else 0) + (if (es.getD i default).dst = (k : Int) then f.getD i 0 else 0) := by
    intro k hk
    rw [set2_get _ _ _ _ _ _ (by omega) (by omega), set1_get _ _ _ _ (by omega)]
    generalize hs : (es.getD i default).src = a at *
    generalize hd : (es.getD i default).dst = b at *
    by_cases e1 : k = b.toNat
    · rw [if_pos e1, if_pos (show b = (k : Int) by omega)]
      by_cases e2 : b.toNat = a.toNat
      · rw [if_pos e2, if_pos (show a = (k : Int) by omega), show a.toNat = k by omega]
      · rw [if_neg e2, if_neg (show ¬ a = (k : Int) by omega), show b.toNat = k by omega]; omega
    · rw [if_neg e1, if_neg (show ¬ b = (k : Int) by omega)]
      by_cases e2 : k = a.toNat
      · rw [if_pos e2, if_pos (show a = (k : Int) by omega), show a.toNat = k by omega]; omega
      · rw [if_neg e2, if_neg (show ¬ a = (k : Int) by omega)]; omega
  refine ⟨by simp [hm], fun k hk => ?_, fun k hk => ?_⟩
  · have h0 := h.at_ k hk
    rw [gone_drop (k : Int) hi hlen] at h0
    rw [key k hk]; omega
  · have h0 := h.lo k hk
    rw [key k hk]
    split <;> split <;> omega
theorem waits_start {n : Int} {es : List Arc} {f m : List Int} (hl : m.length = n.toNat) (h : ∀ k, k < n.toNat → m.getD k 0 = 0) : Waits n es f m 0 :=
  ⟨hl, fun k hk => by rw [h k hk]; simp, fun k hk => by rw [h k hk]; omega⟩
theorem Waits.end_ {n : Int} {es : List Arc} {f m : List Int} {i : Nat} (h : Waits n es f m i) (hi : es.length ≤ i) : m = waitOf n es f := by
  refine list_ext 0 (by rw [h.len, waitOf_len]) fun k hk => ?_
  rw [h.len] at hk
  rw [h.at_ k hk, gone_end _ hi, waitOf_at hk]; omega
end Go.Ab
