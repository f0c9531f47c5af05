/- Of trees and their codes, part two: the start, what hangs together, the reference's masks. -/
import Derived.Test.YtakfbagokponeaaPlTree
import Derived.Test.YtakfbagokponeaaPlA
namespace Go.Ab
/-! ### The start -/
/-! ### What hangs together -/
/-! ### The greatest number of a list -/
def maxL : List Int → Int
  | [] => 0
  | x :: r => r.foldl max x
theorem maxL_snoc {l : List Int} {x : Int} (h : 0 < l.length) : maxL (l ++ [x]) = max (maxL l) x := by
  cases l with
  | nil => simp at h
  | cons a r => simp [maxL]
theorem maxL_step {l : List Int} {i : Nat} (h1 : 1 ≤ i) (hi : i < l.length) : maxL (l.take (i + 1)) = max (maxL (l.take i)) (l.getD i 0) := by
  rw [take_getD l 0 i hi, maxL_snoc (by rw [List.length_take]; omega)]
theorem maxL_zero : ∀ n, maxL (List.replicate n 0) = 0
  | 0 => rfl
  | n + 1 => by
    rw [List.replicate_succ, maxL]
    induction n with
    | zero => rfl
    | succ n ih => rw [List.replicate_succ, List.foldl_cons]; exact ih
theorem maxL_one (l : List Int) : maxL (l.take 1) = l.getD 0 0 := by cases l <;> rfl
/-! ### The reference's masks -/
def adjT (es : List Arc) (v u : Nat) : Bool := es.any fun a => (decide (a.src = v) && decide (a.dst = u)) || (decide (a.dst = v) && decide (a.src = u))
theorem adj_cons (a : Arc) (es : List Arc) (v u : Nat) : adjT (a :: es) v u = (((decide (a.src = v) && decide (a.dst = u)) || (decide (a.dst = v) && decide (a.src = u))) || adjT es v u) := rfl
theorem adj_snoc (a : Arc) (es : List Arc) (v u : Nat) : adjT (es ++ [a]) v u = (adjT es v u || ((decide (a.src = v) && decide (a.dst = u)) || (decide (a.dst = v) && decide (a.src = u)))) := by
  unfold adjT; rw [List.any_append]; simp only [List.any_cons, List.any_nil, Bool.or_false]
theorem adj_symm (es : List Arc) (v u : Nat) : adjT es v u = adjT es u v := by
  induction es with
  | nil => rfl
  | cons a es ih => rw [adj_cons, adj_cons, ih, Bool.and_comm (decide (a.dst = (v : Int))), Bool.and_comm (decide (a.src = (v : Int))), Bool.or_comm (decide (a.dst = (u : Int)) && decide (a.src = (v : Int)))]
theorem adj_none {es : List Arc} {v : Nat} (h : degT es v = 0) (u : Nat) : adjT es v u = false := by
  unfold adjT
  rw [List.any_eq_false]
  intro a ha hc
  have h2 := List.countP_eq_zero.1 h a ha
  unfold touch at h2
  rw [Bool.or_eq_true, Bool.and_eq_true, Bool.and_eq_true] at hc
  rcases hc with ⟨q, _⟩ | ⟨q, _⟩
  · rw [q] at h2; exact h2 rfl
  · rw [q, Bool.or_true] at h2; exact h2 rfl
structure NearM (N : List Int) (es : List Arc) : Prop where
  len : N.length = 12
  rng : ∀ v : Nat, 0 ≤ N.getD v 0 ∧ N.getD v 0 ≤ 4095
  bit : ∀ v u : Nat, v < 12 → has (N.getD v 0) u = adjT es v u
theorem zero12 (v : Nat) : (List.replicate 12 (0 : Int)).getD v 0 = 0 := by
  by_cases q : v < 12
  · rw [getD_lt _ 0 v (by simpa using q), List.getElem_replicate]
  · exact getD_ge _ _ _ (by simp; omega)
theorem NearM.start : NearM [0, 0, 0, 0, 0, 0, 0, 0, 0, 0, 0, 0] [] where
  len := rfl
  rng := fun v => by
    have h : ([0, 0, 0, 0, 0, 0, 0, 0, 0, 0, 0, 0] : List Int).getD v 0 = 0 := zero12 v
    omega
  bit := fun v u hv => by
    have h : ([0, 0, 0, 0, 0, 0, 0, 0, 0, 0, 0, 0] : List Int).getD v 0 = 0 := zero12 v
    rw [h, has_zero]; rfl
theorem nm_ior {a b : Int} (ha : 0 ≤ a ∧ a ≤ 4095) (hb : 0 ≤ b ∧ b ≤ 4095) : 0 ≤ ior a b ∧ ior a b ≤ 4095 := by
  refine ⟨ior0 a b, ?_⟩
  have : ior a b < ((2 ^ 12 : Nat) : Int) := lt_has (ior0 a b) fun v hv => by
    rw [has_ior, has_lt (n := 12) ha.1 (by omega) hv, has_lt (n := 12) hb.1 (by omega) hv]; rfl
  omega
theorem nm_iandn {a b : Int} (ha : 0 ≤ a ∧ a ≤ 4095) : 0 ≤ iandn a b ∧ iandn a b ≤ 4095 := by
  refine ⟨iandn0 a b, ?_⟩
  have : iandn a b < ((2 ^ 12 : Nat) : Int) := lt_has (iandn0 a b) fun v hv => by
    rw [has_iandn, has_lt (n := 12) ha.1 (by omega) hv]; rfl
  omega
theorem nm_pow {k : Nat} (h : k < 12) : 0 ≤ (1 : Int) * 2 ^ k ∧ (1 : Int) * 2 ^ k ≤ 4095 := by
  have h2 : ∀ k : Nat, k < 12 → 0 ≤ (1 : Int) * 2 ^ k ∧ (1 : Int) * 2 ^ k ≤ 4095 := by decide
  exact h2 k h
theorem NearM.add {N : List Int} {es : List Arc} (h : NearM N es) {a : Arc} (h1 : 0 ≤ a.src) (h2 : a.src < a.dst) (h3 : a.dst < 12) :
    NearM ((N.set a.src.toNat (ior (N.getD a.src.toNat 0) (1 * 2 ^ a.dst.toNat))).set a.dst.toNat (ior ((N.set a.src.toNat (ior (N.getD a.src.toNat 0) (1 * 2 ^ a.dst.toNat))).getD a.dst.toNat 0) (1 * 2 ^ a.src.toNat))) (es ++ [a]) := by
  have hl := h.len
  have hat : ∀ v : Nat, ((N.set a.src.toNat (ior (N.getD a.src.toNat 0) (1 * 2 ^ a.dst.toNat))).set a.dst.toNat (ior ((N.set a.src.toNat (ior (N.getD a.src.toNat 0) (1 * 2 ^ a.dst.toNat))).getD a.dst.toNat 0) (1 * 2 ^ a.src.toNat))).getD v 0
      = if v = a.dst.toNat then ior (N.getD a.dst.toNat 0) (1 * 2 ^ a.src.toNat) else if v = a.src.toNat then ior (N.getD a.src.toNat 0) (1 * 2 ^ a.dst.toNat) else N.getD v 0 := fun v => by
    rw [getD_set_if _ _ _ _ (by rw [List.length_set]; omega), getD_set_if _ _ _ _ (by omega), getD_set_if _ _ _ _ (by omega), if_neg (show ¬ a.dst.toNat = a.src.toNat by omega)]
  refine ⟨by rw [List.length_set, List.length_set]; exact hl, fun v => ?_, fun v u hv => ?_⟩
  · rw [hat]
    split
    · exact nm_ior (h.rng _) (nm_pow (k := a.src.toNat) (by omega))
    · split
      · exact nm_ior (h.rng _) (nm_pow (k := a.dst.toNat) (by omega))
      · exact h.rng v
  · rw [hat, adj_snoc]
    split
    · rename_i e
      rw [has_ior, h.bit _ _ (by omega), has_pow, ← e]
      congr 1
      rw [Bool.eq_iff_iff]; simp only [Bool.or_eq_true, Bool.and_eq_true, decide_eq_true_eq]; omega
    · split
      · rename_i e
        rw [has_ior, h.bit _ _ (by omega), has_pow, ← e]
        congr 1
        rw [Bool.eq_iff_iff]; simp only [Bool.or_eq_true, Bool.and_eq_true, decide_eq_true_eq]; omega
      · rename_i e1 e2
        rw [h.bit _ _ hv]
        have : ((decide (a.src = (v : Int)) && decide (a.dst = (u : Int))) || (decide (a.dst = (v : Int)) && decide (a.src = (u : Int)))) = false := by
          rw [Bool.eq_false_iff]; simp only [ne_eq, Bool.or_eq_true, Bool.and_eq_true, decide_eq_true_eq]; omega
        rw [this, Bool.or_false]
/-! ### A mask of one bit -/
def one16 (s : Int) : Bool := decide (s ≠ 0) && decide (iand s (s - 1) = 0)
theorem one_all : (List.range 4096).all (fun s => (decide (s ≠ 0) && (s &&& (s - 1) == 0)) == ((List.range 12).countP (fun u => s.testBit u) == 1)) = true := by decide +kernel
theorem one_is {z : Int} (h : 0 ≤ z ∧ z ≤ 4095) : one16 z = ((List.range 12).countP (fun u => has z u) == 1) := by
  have h1 := List.all_eq_true.1 one_all z.toNat (List.mem_range.2 (by omega))
  rw [beq_iff_eq] at h1
  unfold has
  rw [← h1]
  unfold one16 iand
  rw [show (z - 1).toNat = z.toNat - 1 by omega]
  congr 1
  · rw [decide_eq_decide]; omega
  · rw [Bool.eq_iff_iff, beq_iff_eq, decide_eq_true_eq]; omega
def nbT (es : List Arc) (v : Nat) : Nat := (List.range 12).countP fun u => adjT es v u
theorem cnt_one {c : Nat} (h : c < 12) : (List.range 12).countP (fun u => decide (u = c)) = 1 := by
  have h2 : ∀ c : Nat, c < 12 → (List.range 12).countP (fun u => decide (u = c)) = 1 := by decide
  exact h2 c h
theorem countP_or {α : Type} {p q : α → Bool} : ∀ {l : List α}, (∀ x, p x = true → q x = false) → l.countP (fun x => p x || q x) = l.countP p + l.countP q
  | [], _ => rfl
  | a :: l, h => by
    rw [List.countP_cons, List.countP_cons, List.countP_cons, countP_or h]
    cases e : p a
    · simp; omega
    · rw [h a e]; simp; omega
theorem nb_congr {es : List Arc} {v : Nat} {p : Nat → Bool} (h : ∀ u, adjT es v u = p u) : nbT es v = (List.range 12).countP p := by
  unfold nbT; rw [funext h]
/-! ### A round of the reference -/
/-! ### Bounds -/
theorem occ_le {l : List Int} {v : Int} : occ l v ≤ l.length := by
  unfold occ; have := List.countP_le_length (p := fun x => decide (x = v)) (l := l); omega
theorem Lft.hi {n : Nat} {L r : List Int} (h : Lft n L r) {v : Nat} (hv : v < n) : L.getD v 0 ≤ r.length := by
  have := occ_le (l := r) (v := (v : Int))
  rcases h.at_ v hv with q | q <;> omega
theorem set_rng {N : List Int} (h : ∀ v : Nat, 0 ≤ N.getD v 0 ∧ N.getD v 0 ≤ 4095) {i : Nat} {x : Int} (hx : 0 ≤ x ∧ x ≤ 4095) (v : Nat) : 0 ≤ (N.set i x).getD v 0 ∧ (N.set i x).getD v 0 ≤ 4095 := by
  by_cases hi : i < N.length
  · rw [getD_set_if _ _ _ _ hi]; split
    · exact hx
    · exact h v
  · rw [List.set_eq_of_length_le (by omega)]; exact h v
theorem mem_rng {N : List Int} (h : ∀ v : Nat, 0 ≤ N.getD v 0 ∧ N.getD v 0 ≤ 4095) : ∀ x ∈ N, 0 ≤ x ∧ x ≤ 4095 := fun x hx => by
  obtain ⟨i, hi, rfl⟩ := List.mem_iff_getElem.1 hx
  have := h i
  rwa [getD_lt _ 0 i hi] at this
/-! ### The arcs stand as they are taken away -/
end Go.Ab
