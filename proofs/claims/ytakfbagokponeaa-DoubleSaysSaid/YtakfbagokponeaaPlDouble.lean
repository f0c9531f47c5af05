/- Of tables whose rows and columns are all as much: the pieces, in their order. -/
import Derived.Test.YtakfbagokponeaaPlAssign
import Derived.Test.YtakfbagokponeaaPlHall
import Derived.Test.YtakfbagokponeaaPlDet3
import Derived.Test.YtakfbagokponeaaPlTree2
import Derived.Test.YtakfbagokponeaaPlA
namespace Go.Ab
/-! ### The first order that meets no 0 -/
def okAll (L : List (List Int)) (q : List Int) : Bool := (List.range q.length).all fun i => decide (0 < at2 L i (q.getD i 0).toNat)
theorem okAll_iff {L : List (List Int)} {q : List Int} : okAll L q = true ↔ ∀ i, i < q.length → 0 < at2 L i (q.getD i 0).toNat := by
  unfold okAll
  rw [List.all_eq_true]
  exact ⟨fun h i hi => of_decide_eq_true (h i (List.mem_range.2 hi)), fun h i hi => decide_eq_true (h i (List.mem_range.1 hi))⟩
theorem okAll_snoc {L : List (List Int)} {q : List Int} {k : Int} : okAll L (q ++ [k]) = true ↔ okAll L q = true ∧ 0 < at2 L q.length k.toNat := by
  rw [okAll_iff, okAll_iff]
  constructor
  · intro h
    refine ⟨fun i hi => ?_, ?_⟩
    · have := h i (by rw [List.length_append, List.length_singleton]; omega)
      rwa [getD_app_l _ _ _ _ hi] at this
    · have := h q.length (by rw [List.length_append, List.length_singleton]; omega)
      have e : (q ++ [k]).getD q.length 0 = k := by rw [List.getD_eq_getElem?_getD, List.getElem?_append_right (Nat.le_refl _)]; simp
      rwa [e] at this
  · rintro ⟨h1, h2⟩ i hi
    rw [List.length_append, List.length_singleton] at hi
    by_cases e : i < q.length
    · rw [getD_app_l _ _ _ _ e]; exact h1 i e
    · have : i = q.length := by omega
      subst this
      have e : (q ++ [k]).getD q.length 0 = k := by rw [List.getD_eq_getElem?_getD, List.getElem?_append_right (Nat.le_refl _)]; simp
      rwa [e]
def frst (n : Nat) (L : List (List Int)) (d : Nat) (l : List Int) : Option (List Int) := (ordFrom n d [l]).find? (okAll L)
/-- What is left of it from a column on. -/
def frstK (n : Nat) (L : List (List Int)) (d : Nat) (l : List Int) (k : Nat) : Option (List Int) := (ordFrom n d (extFrom l k (n - k))).find? (okAll L)
theorem frst_succ (n : Nat) (L : List (List Int)) (d : Nat) (l : List Int) : frst n L (d + 1) l = frstK n L d l 0 := by
  unfold frst frstK
  rw [ordFrom, ordStep, ordStep, List.append_nil]; rfl
theorem frst_zero {n : Nat} {L : List (List Int)} {l : List Int} (h : okAll L l = true) : frst n L 0 l = some l := by
  unfold frst
  rw [ordFrom, List.find?_cons, h]
theorem from_prefix {n : Nat} : ∀ {d : Nat} {l q : List Int}, q ∈ ordFrom n d [l] → ∃ s, q = l ++ s ∧ s.length = d
  | 0, l, q, h => by
    rw [ordFrom, List.mem_singleton] at h
    exact ⟨[], by rw [h, List.append_nil], rfl⟩
  | d + 1, l, q, h => by
    rw [ordFrom, ordStep, ordStep, List.append_nil] at h
    have key : ∀ {X : List (List Int)}, q ∈ ordFrom n d X → ∃ x ∈ X, q ∈ ordFrom n d [x] := fun {X} => by
      induction X with
      | nil => intro h; rw [ordFrom_nil] at h; cases h
      | cons x r ih =>
        intro h
        rw [show x :: r = [x] ++ r from rfl, ordFrom_append, List.mem_append] at h
        rcases h with h | h
        · exact ⟨x, List.mem_cons_self, h⟩
        · obtain ⟨y, hy, h2⟩ := ih h
          exact ⟨y, List.mem_cons_of_mem _ hy, h2⟩
    obtain ⟨x, hx, h2⟩ := key h
    obtain ⟨j, _, _, _, rfl⟩ := ext_mem.1 hx
    obtain ⟨s, hs, hl⟩ := from_prefix h2
    exact ⟨[(j : Int)] ++ s, by rw [hs, List.append_assoc], by rw [List.length_append, List.length_singleton, hl]; omega⟩
theorem frst_dead {n : Nat} {L : List (List Int)} {d : Nat} {l : List Int} {k : Int} (h : ¬ 0 < at2 L l.length k.toNat) : frst n L d (l ++ [k]) = none := by
  unfold frst
  rw [List.find?_eq_none]
  intro q hq hok
  obtain ⟨s, rfl, _⟩ := from_prefix hq
  have := okAll_iff.1 hok l.length (by rw [List.length_append, List.length_append, List.length_singleton]; omega)
  rw [List.append_assoc] at this
  have e : (l ++ ([k] ++ s)).getD l.length 0 = k := by rw [List.getD_eq_getElem?_getD, List.getElem?_append_right (Nat.le_refl _)]; simp
  rw [e] at this
  exact h this
theorem frstK_end {n : Nat} {L : List (List Int)} {d : Nat} {l : List Int} {k : Nat} (h : n ≤ k) : frstK n L d l k = none := by
  unfold frstK
  rw [extFrom_end h, ordFrom_nil]; rfl
theorem frstK_step {n : Nat} {L : List (List Int)} {d : Nat} {l : List Int} {k : Nat} (h : k < n) : frstK n L d l k = if (k : Int) ∈ l then frstK n L d l (k + 1) else (frst n L d (l ++ [(k : Int)])).or (frstK n L d l (k + 1)) := by
  unfold frstK frst
  rw [extFrom_step h, ordFrom_append, List.find?_append]
  by_cases e : (k : Int) ∈ l
  · rw [if_pos e, if_pos (mem_rk.1 e), ordFrom_nil]; rfl
  · rw [if_neg e, if_neg (fun q => e (mem_rk.2 q))]
theorem frstK_skip {n : Nat} {L : List (List Int)} {d : Nat} {l : List Int} {k : Nat} (h : k < n) (hc : ¬ (0 < at2 L l.length k ∧ ¬ (k : Int) ∈ l)) : frstK n L d l k = frstK n L d l (k + 1) := by
  rw [frstK_step h]
  by_cases e : (k : Int) ∈ l
  · rw [if_pos e]
  · rw [if_neg e, frst_dead (fun q => hc ⟨by simpa using q, e⟩)]; rfl
theorem frstK_none {n : Nat} {L : List (List Int)} {d : Nat} {l : List Int} {k : Nat} (h : k < n) (hm : ¬ (k : Int) ∈ l) (hf : frst n L d (l ++ [(k : Int)]) = none) : frstK n L d l k = frstK n L d l (k + 1) := by
  rw [frstK_step h, if_neg hm, hf]; rfl
theorem frstK_some {n : Nat} {L : List (List Int)} {d : Nat} {l q : List Int} {k : Nat} (h : k < n) (hm : ¬ (k : Int) ∈ l) (hf : frst n L d (l ++ [(k : Int)]) = some q) : frstK n L d l k = some q := by
  rw [frstK_step h, if_neg hm, hf]; rfl
theorem orders_from (n : Nat) : ordersOf n = ordFrom n n [[]] := by
  unfold ordersOf
  rw [show ([[]] : List (List Int)) = ordIter n 0 from rfl, ordFrom_iter, Nat.zero_add]
theorem frst_all (n : Nat) (L : List (List Int)) : frst n L n [] = (ordersOf n).find? (okAll L) := by unfold frst; rw [orders_from]
theorem frst_full {n : Nat} {L : List (List Int)} {q : List Int} (h : frst n L n [] = some q) : isFull n q ∧ okAll L q = true := by
  rw [frst_all] at h
  exact ⟨orders_mem.1 (List.mem_of_find?_eq_some h), List.find?_some h⟩
/-! ### Tables whose rows and columns are all as much -/
structure DS (n : Nat) (L : List (List Int)) (s : Int) : Prop where
  sq : Sq n L
  nn : ∀ i j, i < n → j < n → 0 ≤ at2 L i j
  row : ∀ i, i < n → sumTo n (at2 L i) = s
  col : ∀ j, j < n → sumTo n (fun i => at2 L i j) = s
theorem DS.le {n : Nat} {L : List (List Int)} {s : Int} (h : DS n L s) {i j : Nat} (hi : i < n) (hj : j < n) : at2 L i j ≤ s := by
  rw [← h.row i hi]
  exact sum_mem_le (fun j hj => h.nn i j hi hj) hj
theorem DS.some {n : Nat} {L : List (List Int)} {s : Int} (h : DS n L s) (hs : 0 < s) : ∃ q, frst n L n [] = some q ∧ isFull n q ∧ okAll L q = true := by
  obtain ⟨f, f1, f2⟩ := birkhoff h.nn h.row h.col hs
  let q : List Int := (List.range n).map fun i => (f i : Int)
  have hl : q.length = n := by simp [q]
  have hat : ∀ i, i < n → q.getD i 0 = (f i : Int) := fun i hi => by
    rw [getD_lt q 0 i (by omega)]; simp [q]
  have hfull : isFull n q := by
    have hnd : q.Nodup := by
      refine List.pairwise_iff_getElem.2 fun i k hi hk hik e => ?_
      have e1 := hat i (by omega)
      have e2 := hat k (by omega)
      rw [getD_lt q 0 i hi] at e1
      rw [getD_lt q 0 k hk] at e2
      have := f2 i k (by omega) (by omega) (by omega)
      omega
    refine ⟨hl, fun k hk => ?_⟩
    have hp := perm_of_sub q (idsOf n) hnd (fun x hx => by
      obtain ⟨i, hi, rfl⟩ := List.mem_map.1 hx
      exact ids_mem.2 ⟨f i, (f1 i (List.mem_range.1 hi)).1, rfl⟩) (by rw [ids_len, hl]; exact Nat.le_refl _)
    exact hp.mem_iff.2 (ids_mem.2 ⟨k, hk, rfl⟩)
  have hok : okAll L q = true := okAll_iff.2 fun i hi => by
    rw [hat i (by omega), Int.toNat_natCast]; exact (f1 i (by omega)).2
  cases e : frst n L n [] with
  | some q2 => exact ⟨q2, rfl, frst_full e⟩
  | none =>
    rw [frst_all, List.find?_eq_none] at e
    exact absurd hok (by simpa using e q (orders_mem.2 hfull))
theorem DS.none {n : Nat} {L : List (List Int)} {s : Int} (h : DS n L s) (hn : 0 < n) (hs : s ≤ 0) : frst n L n [] = none := by
  cases e : frst n L n [] with
  | none => rfl
  | some q =>
    obtain ⟨h1, h2⟩ := frst_full e
    have h3 := okAll_iff.1 h2 0 (by rw [h1.1]; exact hn)
    have h4 := h1.at_ hn
    have := h.le (i := 0) (j := (q.getD 0 0).toNat) hn (by omega)
    omega
/-- The least number on an order's places. -/
def amtTo (L : List (List Int)) (q : List Int) (b : Int) : Nat → Int
  | 0 => b
  | i + 1 => min (amtTo L q b i) (at2 L i (q.getD i 0).toNat)
theorem amt_le {L : List (List Int)} {q : List Int} {b : Int} : ∀ {m i : Nat}, i < m → amtTo L q b m ≤ at2 L i (q.getD i 0).toNat
  | 0, _, h => by omega
  | m + 1, i, h => by
    rw [amtTo]
    by_cases e : i = m
    · subst e; omega
    · have := amt_le (L := L) (q := q) (b := b) (m := m) (i := i) (by omega); omega
theorem amt_top {L : List (List Int)} {q : List Int} {b : Int} : ∀ {m : Nat}, amtTo L q b m ≤ b
  | 0 => Int.le_refl _
  | m + 1 => by have := amt_top (L := L) (q := q) (b := b) (m := m); rw [amtTo]; omega
theorem amt_pos {L : List (List Int)} {q : List Int} {b : Int} (hb : 0 < b) : ∀ {m : Nat}, (∀ i, i < m → 0 < at2 L i (q.getD i 0).toNat) → 0 < amtTo L q b m
  | 0, _ => hb
  | m + 1, h => by
    have := amt_pos (L := L) (q := q) hb (m := m) fun i hi => h i (by omega)
    have := h m (by omega)
    rw [amtTo]; omega
theorem amt_any {L : List (List Int)} {q : List Int} {b c : Int} {m : Nat} (hm : 0 < m) (hb : at2 L 0 (q.getD 0 0).toNat ≤ b) (hc : at2 L 0 (q.getD 0 0).toNat ≤ c) : amtTo L q b m = amtTo L q c m := by
  induction m with
  | zero => omega
  | succ m ih =>
    rcases Nat.eq_zero_or_pos m with rfl | q2
    · rw [amtTo, amtTo, amtTo, amtTo, Int.min_eq_right hb, Int.min_eq_right hc]
    · rw [amtTo, amtTo, ih q2]
/-- A piece is taken away. -/
def subTo (L : List (List Int)) (q : List Int) (a : Int) : Nat → List (List Int)
  | 0 => L
  | i + 1 => put2 (subTo L q a i) i (q.getD i 0).toNat (at2 (subTo L q a i) i (q.getD i 0).toNat - a)
theorem sub_sq {n : Nat} {L : List (List Int)} (h : Sq n L) (q : List Int) (a : Int) : ∀ i, Sq n (subTo L q a i)
  | 0 => h
  | i + 1 => (sub_sq h q a i).put
theorem sub_at {n : Nat} {L : List (List Int)} (h : Sq n L) {q : List Int} (hq : isFull n q) (a : Int) : ∀ {i : Nat}, i ≤ n → ∀ u v, at2 (subTo L q a i) u v = at2 L u v - if u < i ∧ q.getD u 0 = (v : Int) then a else 0
  | 0, _, u, v => by rw [if_neg (by omega)]; exact (Int.sub_zero _).symm
  | i + 1, hi, u, v => by
    have hqi := hq.at_ (i := i) (by omega)
    have ih := sub_at h hq a (i := i) (by omega)
    rw [subTo, at_put (sub_sq h q a i) (by omega) (by omega), ih, ih]
    by_cases e : u = i
    · subst e
      by_cases e2 : v = (q.getD u 0).toNat
      · rw [if_pos ⟨rfl, e2⟩, if_neg (by omega), if_pos (by omega), e2]; omega
      · rw [if_neg (fun c => e2 c.2), if_neg (by omega), if_neg (by omega)]
    · rw [if_neg (fun c => e c.1)]
      by_cases e3 : u < i ∧ q.getD u 0 = (v : Int)
      · rw [if_pos e3, if_pos (by omega)]
      · rw [if_neg e3, if_neg (by omega)]
theorem DS.sub {n : Nat} {L : List (List Int)} {s a : Int} (h : DS n L s) {q : List Int} (hq : isFull n q) (ha : ∀ i, i < n → a ≤ at2 L i (q.getD i 0).toNat) : DS n (subTo L q a n) (s - a) := by
  have hat := sub_at h.sq hq a (i := n) (Nat.le_refl _)
  refine ⟨sub_sq h.sq q a n, fun i j hi hj => ?_, fun i hi => ?_, fun j hj => ?_⟩
  · rw [hat]
    split
    · rename_i c
      have := ha i hi
      rw [c.2, Int.toNat_natCast] at this; omega
    · have := h.nn i j hi hj; omega
  · have hqi := hq.at_ hi
    have e : sumTo n (at2 (subTo L q a n) i) = sumTo n fun j => at2 L i j - if q.getD i 0 = (j : Int) then a else 0 := sum_congr fun j _ => by
      rw [hat]
      by_cases c : q.getD i 0 = (j : Int)
      · rw [if_pos ⟨hi, c⟩, if_pos c]
      · rw [if_neg (fun d => c d.2), if_neg c]
    have e2 := sum_add (fun j => at2 L i j - if q.getD i 0 = (j : Int) then a else 0) (fun j => if q.getD i 0 = (j : Int) then a else 0) n
    have e3 : sumTo n (fun j => (at2 L i j - if q.getD i 0 = (j : Int) then a else 0) + if q.getD i 0 = (j : Int) then a else 0) = s := by
      rw [← h.row i hi]; exact sum_congr fun j _ => by omega
    have e4 : sumTo n (fun j => if q.getD i 0 = (j : Int) then a else 0) = a := by
      rw [sum_one (c := (q.getD i 0).toNat) (by omega) (fun j _ hj => if_neg (by omega)), if_pos (by omega)]
    rw [e]; omega
  · obtain ⟨i0, hi0, he⟩ : ∃ i : Nat, i < n ∧ q.getD i 0 = (j : Int) := by
      obtain ⟨i, hi, e⟩ := List.getElem_of_mem (hq.2 j hj)
      exact ⟨i, by rw [← hq.1]; exact hi, by rw [getD_lt q 0 i hi]; exact e⟩
    have huniq : ∀ i, i < n → i ≠ i0 → q.getD i 0 ≠ (j : Int) := fun i hi hne e => by
      have hnd := hq.nodup
      have h1 := List.pairwise_iff_getElem.1 hnd
      have l1 : i < q.length := by rw [hq.1]; exact hi
      have l2 : i0 < q.length := by rw [hq.1]; exact hi0
      rw [getD_lt q 0 i l1] at e
      rw [getD_lt q 0 i0 l2] at he
      rcases Nat.lt_or_gt_of_ne hne with c | c
      · exact h1 i i0 l1 l2 c (e.trans he.symm)
      · exact h1 i0 i l2 l1 c (he.trans e.symm)
    have e : sumTo n (fun i => at2 (subTo L q a n) i j) = sumTo n fun i => at2 L i j - if i = i0 then a else 0 := sum_congr fun i hi => by
      rw [hat]
      by_cases c : i = i0
      · subst c; rw [if_pos ⟨hi, he⟩, if_pos rfl]
      · rw [if_neg (fun d => huniq i hi c d.2), if_neg c]
    have e2 := sum_add (fun i => at2 L i j - if i = i0 then a else 0) (fun i => if i = i0 then a else 0) n
    have e3 : sumTo n (fun i => (at2 L i j - if i = i0 then a else 0) + if i = i0 then a else 0) = s := by
      rw [← h.col j hj]; exact sum_congr fun i _ => by omega
    have e4 : sumTo n (fun i => if i = i0 then a else 0) = a := by
      rw [sum_one (c := i0) hi0 (fun i _ hi => if_neg hi), if_pos rfl]
    rw [e]; omega
/-- All pieces. -/
def pcsOf (n : Nat) : Nat → List (List Int) → Int → List (Int × List Int)
  | 0, _, _ => []
  | f + 1, L, s => if s ≤ 0 then [] else match frst n L n [] with
    | none => []
    | some q => (amtTo L q s n, q) :: pcsOf n f (subTo L q (amtTo L q s n) n) (s - amtTo L q s n)
theorem pcs_stop {n f : Nat} {L : List (List Int)} {s : Int} (h : s ≤ 0) : pcsOf n f L s = [] := by
  cases f with
  | zero => rfl
  | succ f => rw [pcsOf, if_pos h]
theorem pcs_go {n f : Nat} {L : List (List Int)} {s : Int} {q : List Int} (hs : 0 < s) (hf : frst n L n [] = some q) : pcsOf n (f + 1) L s = (amtTo L q s n, q) :: pcsOf n f (subTo L q (amtTo L q s n) n) (s - amtTo L q s n) := by
  rw [pcsOf, if_neg (by omega), hf]
theorem pcs_fuel {n : Nat} : ∀ {f g : Nat} {L : List (List Int)} {s : Int}, DS n L s → s.toNat ≤ f → s.toNat ≤ g → pcsOf n f L s = pcsOf n g L s
  | 0, g, L, s, _, hf, _ => by rw [pcs_stop (by omega), pcs_stop (by omega)]
  | f + 1, 0, L, s, _, _, hg => by rw [pcs_stop (by omega), pcs_stop (by omega)]
  | f + 1, g + 1, L, s, h, hf, hg => by
    by_cases hs : s ≤ 0
    · rw [pcs_stop hs, pcs_stop hs]
    · obtain ⟨q, hq, hfull, hok⟩ := h.some (by omega)
      have hok := okAll_iff.1 hok
      rw [hfull.1] at hok
      have hp := amt_pos (L := L) (q := q) (b := s) (by omega) (m := n) hok
      rw [pcs_go (by omega) hq, pcs_go (by omega) hq, pcs_fuel (f := f) (g := g) (h.sub hfull fun i hi => amt_le hi) (by omega) (by omega)]
/-! ### The checks -/
def rowS (t : List (List Int)) (n i : Nat) : Int := sumTo n (at2 t i)
def colS (t : List (List Int)) (n j : Nat) : Int := sumTo n fun i => at2 t i j
def evenB (t : List (List Int)) : Bool := (List.range t.length).all fun i => decide (rowS t t.length i = rowS t t.length 0) && decide (colS t t.length i = rowS t t.length 0)
def sumE (t : List (List Int)) : Int := if tabErr t 0 ≠ 0 then tabErr t 0 else if evenB t = true then 0 else 8
def sumV (t : List (List Int)) : Int := if sumE t = 0 then rowS t t.length 0 else 0
structure Tab0 (t : List (List Int)) : Prop where
  n6 : t.length ≤ 6
  sq : Sq t.length t
  at_ : ∀ i j, i < t.length → j < t.length → 0 ≤ at2 t i j ∧ at2 t i j ≤ 1000
theorem tab0_of {t : List (List Int)} (h : tabErr t 0 = 0) : Tab0 t := by
  unfold tabErr at h
  split at h
  · cases h
  · rename_i h6
    have hr := rows_ok h
    refine ⟨by omega, ⟨rfl, fun i hi => ?_⟩, fun i j hi hj => ?_⟩
    · exact (hr _ (getD_mem hi)).1
    · have h1 := hr _ (getD_mem (d := []) hi)
      unfold at2
      exact h1.2 _ (getD_mem (by rw [h1.1]; exact hj))
theorem sum_bd6 {f : Nat → Int} : ∀ {n : Nat}, (∀ j, j < n → 0 ≤ f j ∧ f j ≤ 1000) → 0 ≤ sumTo n f ∧ sumTo n f ≤ 1000 * (n : Int)
  | 0, _ => by constructor <;> exact Int.le_refl _
  | n + 1, h => by
    have := sum_bd6 (f := f) (n := n) fun j hj => h j (by omega)
    have := h n (by omega)
    rw [sumTo]; omega
theorem Tab0.rowb {t : List (List Int)} (h : Tab0 t) {i k : Nat} (hi : i < t.length) (hk : k ≤ t.length) : 0 ≤ sumTo k (at2 t i) ∧ sumTo k (at2 t i) ≤ 6000 := by
  have := sum_bd6 (f := at2 t i) (n := k) fun j hj => h.at_ i j hi (by omega)
  have := h.n6; omega
theorem Tab0.colb {t : List (List Int)} (h : Tab0 t) {i k : Nat} (hi : i < t.length) (hk : k ≤ t.length) : 0 ≤ sumTo k (fun j => at2 t j i) ∧ sumTo k (fun j => at2 t j i) ≤ 6000 := by
  have := sum_bd6 (f := fun j => at2 t j i) (n := k) fun j hj => h.at_ j i (by omega) hi
  have := h.n6; omega
theorem even_ds {t : List (List Int)} (h : Tab0 t) (he : evenB t = true) : DS t.length t (rowS t t.length 0) := by
  have h1 := List.all_eq_true.1 he
  refine ⟨h.sq, fun i j hi hj => (h.at_ i j hi hj).1, fun i hi => ?_, fun j hj => ?_⟩
  · have := h1 i (List.mem_range.2 hi)
    rw [Bool.and_eq_true, decide_eq_true_eq, decide_eq_true_eq] at this
    exact this.1
  · have := h1 j (List.mem_range.2 hj)
    rw [Bool.and_eq_true, decide_eq_true_eq, decide_eq_true_eq] at this
    exact this.2
end Go.Ab
namespace Go.Ab
def okNe (L : List (List Int)) (q : List Int) : Bool := (List.range q.length).all fun i => decide (at2 L i (q.getD i 0).toNat ≠ 0)
theorem okNe_iff {L : List (List Int)} {q : List Int} : okNe L q = true ↔ ∀ i, i < q.length → at2 L i (q.getD i 0).toNat ≠ 0 := by
  unfold okNe
  rw [List.all_eq_true]
  exact ⟨fun h i hi => of_decide_eq_true (h i (List.mem_range.2 hi)), fun h i hi => decide_eq_true (h i (List.mem_range.1 hi))⟩
theorem okNe_all {n : Nat} {L : List (List Int)} (hn : ∀ i j, i < n → j < n → 0 ≤ at2 L i j) {q : List Int} (hq : isFull n q) : okNe L q = okAll L q := by
  rw [Bool.eq_iff_iff, okNe_iff, okAll_iff]
  have key : ∀ i, i < q.length → 0 ≤ at2 L i (q.getD i 0).toNat := fun i hi => by
    have hqi := hq.at_ (i := i) (by rw [← hq.1]; exact hi)
    exact hn i _ (by rw [← hq.1]; exact hi) (by omega)
  exact ⟨fun h i hi => by have := h i hi; have := key i hi; omega, fun h i hi => by have := h i hi; omega⟩
theorem idx_find {α : Type} {p r : α → Bool} {d : α} : ∀ {l : List α}, (∀ x ∈ l, p x = r x) → (idxOf p l < 0 → l.find? r = none) ∧ (0 ≤ idxOf p l → idxOf p l < l.length ∧ l.find? r = some (l.getD (idxOf p l).toNat d))
  | [], _ => ⟨fun _ => rfl, fun h => (by unfold idxOf at h; omega)⟩
  | x :: l, h => by
    have ih := idx_find (d := d) (l := l) fun y hy => h y (List.mem_cons_of_mem _ hy)
    have hx := h x List.mem_cons_self
    have hge := (idxOf_ge (p := p) (l := l)).1
    unfold idxOf
    rw [List.find?_cons, List.length_cons]
    cases e : p x
    · rw [← hx, e]
      simp only [Bool.false_eq_true, if_false]
      by_cases c : idxOf p l < 0
      · rw [if_pos c]
        exact ⟨fun _ => ih.1 c, fun q => absurd q (by decide)⟩
      · rw [if_neg c]
        obtain ⟨h1, h2⟩ := ih.2 (by omega)
        refine ⟨fun q => by omega, fun _ => ⟨by omega, ?_⟩⟩
        rw [h2, show (idxOf p l + 1).toNat = (idxOf p l).toNat + 1 by omega]
        simp
    · rw [← hx, e]
      simp
theorem DS.idx {n : Nat} {L : List (List Int)} {s : Int} (h : DS n L s) : (idxOf (okNe L) (ordersOf n) < 0 → frst n L n [] = Option.none) ∧ (0 ≤ idxOf (okNe L) (ordersOf n) → idxOf (okNe L) (ordersOf n) < (ordersOf n).length ∧ frst n L n [] = Option.some ((ordersOf n).getD (idxOf (okNe L) (ordersOf n)).toNat [])) := by
  rw [frst_all]
  exact idx_find (d := []) fun q hq => okNe_all h.nn (orders_mem.1 hq)
/-! ### The sums, in pairs -/
def sumsTo (t : List (List Int)) : Nat → List Int
  | 0 => []
  | i + 1 => sumsTo t i ++ [rowS t t.length i, colS t t.length i]
theorem sumsTo_len (t : List (List Int)) : ∀ i, (sumsTo t i).length = 2 * i
  | 0 => rfl
  | i + 1 => by rw [sumsTo, List.length_append, sumsTo_len]; simp; omega
theorem sumsTo_mem {t : List (List Int)} {x : Int} : ∀ {i : Nat}, x ∈ sumsTo t i ↔ ∃ j, j < i ∧ (x = rowS t t.length j ∨ x = colS t t.length j)
  | 0 => ⟨fun h => (by cases h), fun ⟨j, h, _⟩ => (by omega)⟩
  | i + 1 => by
    rw [sumsTo, List.mem_append, sumsTo_mem (i := i), List.mem_cons, List.mem_singleton]
    constructor
    · rintro (⟨j, h1, h2⟩ | h)
      · exact ⟨j, by omega, h2⟩
      · exact ⟨i, by omega, h⟩
    · rintro ⟨j, h1, h2⟩
      rcases Nat.lt_succ_iff_lt_or_eq.1 h1 with q | q
      · exact .inl ⟨j, q, h2⟩
      · subst q; exact .inr h2
theorem dfoldl_min_is : ∀ {l : List Int} {m : Int}, (l.foldl min m = m ∨ l.foldl min m ∈ l) ∧ l.foldl min m ≤ m ∧ ∀ x ∈ l, l.foldl min m ≤ x
  | [], m => ⟨.inl rfl, Int.le_refl _, fun _ h => by cases h⟩
  | y :: r, m => by
    obtain ⟨h1, h2, h3⟩ := dfoldl_min_is (l := r) (m := min m y)
    rw [List.foldl_cons]
    refine ⟨?_, by omega, fun x hx => ?_⟩
    · rcases h1 with q | q
      · rcases Int.le_total m y with c | c
        · left; omega
        · right; rw [q, Int.min_eq_right c]; exact List.mem_cons_self
      · exact .inr (List.mem_cons_of_mem _ q)
    · rcases List.mem_cons.1 hx with rfl | hx
      · omega
      · exact h3 x hx
theorem dfoldl_max_is : ∀ {l : List Int} {m : Int}, (l.foldl max m = m ∨ l.foldl max m ∈ l) ∧ m ≤ l.foldl max m ∧ ∀ x ∈ l, x ≤ l.foldl max m
  | [], m => ⟨.inl rfl, Int.le_refl _, fun _ h => by cases h⟩
  | y :: r, m => by
    obtain ⟨h1, h2, h3⟩ := dfoldl_max_is (l := r) (m := max m y)
    rw [List.foldl_cons]
    refine ⟨?_, by omega, fun x hx => ?_⟩
    · rcases h1 with q | q
      · rcases Int.le_total m y with c | c
        · right; rw [q, Int.max_eq_right c]; exact List.mem_cons_self
        · left; omega
      · exact .inr (List.mem_cons_of_mem _ q)
    · rcases List.mem_cons.1 hx with rfl | hx
      · omega
      · exact h3 x hx
/-- All numbers of a list are the same, if the least is the greatest. -/
theorem min_max {l : List Int} (hl : l ≠ []) : minOf l = maxL l ↔ ∀ x ∈ l, ∀ y ∈ l, x = y := by
  cases l with
  | nil => exact absurd rfl hl
  | cons z r =>
    obtain ⟨a1, a2, a3⟩ := dfoldl_min_is (l := r) (m := z)
    obtain ⟨b1, b2, b3⟩ := dfoldl_max_is (l := r) (m := z)
    show r.foldl min z = r.foldl max z ↔ _
    constructor
    · intro h
      have key : ∀ x ∈ z :: r, x = r.foldl min z := fun x hx => by
        rcases List.mem_cons.1 hx with rfl | hx
        · omega
        · have := a3 x hx; have := b3 x hx; omega
      intro x hx y hy
      rw [key x hx, key y hy]
    · intro h
      refine h _ ?_ _ ?_
      · rcases a1 with q | q
        · rw [q]; exact List.mem_cons_self
        · exact List.mem_cons_of_mem _ q
      · rcases b1 with q | q
        · rw [q]; exact List.mem_cons_self
        · exact List.mem_cons_of_mem _ q
theorem sums_even {t : List (List Int)} (h : 0 < t.length) : minOf (sumsTo t t.length) = maxL (sumsTo t t.length) ↔ evenB t = true := by
  rw [min_max (by intro q; have := congrArg List.length q; rw [sumsTo_len] at this; simp at this; omega)]
  unfold evenB
  rw [List.all_eq_true]
  constructor
  · intro hh i hi
    rw [Bool.and_eq_true, decide_eq_true_eq, decide_eq_true_eq]
    have hi := List.mem_range.1 hi
    exact ⟨hh _ (sumsTo_mem.2 ⟨i, hi, .inl rfl⟩) _ (sumsTo_mem.2 ⟨0, h, .inl rfl⟩), hh _ (sumsTo_mem.2 ⟨i, hi, .inr rfl⟩) _ (sumsTo_mem.2 ⟨0, h, .inl rfl⟩)⟩
  · intro hh x hx y hy
    have key : ∀ z ∈ sumsTo t t.length, z = rowS t t.length 0 := fun z hz => by
      obtain ⟨j, hj, e⟩ := sumsTo_mem.1 hz
      have := hh j (List.mem_range.2 hj)
      rw [Bool.and_eq_true, decide_eq_true_eq, decide_eq_true_eq] at this
      rcases e with e | e
      · rw [e]; exact this.1
      · rw [e]; exact this.2
    rw [key x hx, key y hy]
theorem sums_first {t : List (List Int)} : ∀ {i : Nat}, 0 < i → (sumsTo t i).getD 0 0 = rowS t t.length 0
  | 0, h => by omega
  | i + 1, _ => by
    rcases Nat.eq_zero_or_pos i with rfl | q
    · rfl
    · rw [sumsTo, getD_app_l _ _ _ _ (by rw [sumsTo_len]; omega)]; exact sums_first q
end Go.Ab
namespace Go.Ab
theorem pc_eq (x y : Int × List Int) : (decide (x.1 = y.1) && decide (x.2 = y.2)) = decide (x = y) := by
  rw [Bool.eq_iff_iff, Bool.and_eq_true, decide_eq_true_eq, decide_eq_true_eq, decide_eq_true_eq]
  exact ⟨fun ⟨h1, h2⟩ => Prod.ext h1 h2, fun h => by rw [h]; exact ⟨rfl, rfl⟩⟩
end Go.Ab
