/- Of trees and their codes, part two: the start, what hangs together, the reference's masks. -/
import Derived.Test.YtakfbagokponeaaPlTree
import Derived.Test.YtakfbagokponeaaPlA
namespace Go.Ab
def cntL (m : Nat) (l : List Int) : List Int := (List.range m).map fun (v : Nat) => occ l (v : Int)
theorem cntL_len (m : Nat) (l : List Int) : (cntL m l).length = m := by simp [cntL]
theorem cntL_at {m v : Nat} {l : List Int} (h : v < m) : (cntL m l).getD v 0 = occ l v := by
  rw [getD_lt (cntL m l) 0 v (by rw [cntL_len]; exact h)]; simp [cntL]
theorem occ_snoc (r : List Int) (k v : Int) : occ (r ++ [k]) v = occ r v + if k = v then 1 else 0 := by
  unfold occ; rw [List.countP_append, List.countP_cons, List.countP_nil]
  by_cases h : k = v
  · simp [h]
  · simp [h]
theorem cntL_step {m i : Nat} {l : List Int} (hi : i < l.length) (h0 : 0 ≤ l.getD i 0) (h1 : l.getD i 0 < m) :
    cntL m (l.take (i + 1)) = (cntL m (l.take i)).set (l.getD i 0).toNat ((cntL m (l.take i)).getD (l.getD i 0).toNat 0 + 1) := by
  refine list_ext 0 (by simp [cntL_len]) fun v hv => ?_
  rw [cntL_len] at hv
  rw [getD_set_if _ _ _ _ (by rw [cntL_len]; omega), cntL_at hv, cntL_at hv, cntL_at (by omega), take_getD l 0 i hi, occ_snoc]
  by_cases e : v = (l.getD i 0).toNat
  · rw [if_pos e, if_pos (by omega), e]
  · rw [if_neg e, if_neg (by omega), Int.add_zero]
theorem cntL_cons {m : Nat} {l : List Int} {k : Int} (h0 : 0 ≤ k) (h1 : k < m) : cntL m (k :: l) = (cntL m l).set k.toNat ((cntL m l).getD k.toNat 0 + 1) := by
  refine list_ext 0 (by simp [cntL_len]) fun v hv => ?_
  rw [cntL_len] at hv
  rw [getD_set_if _ _ _ _ (by rw [cntL_len]; omega), cntL_at hv, cntL_at hv, cntL_at (by omega), occ_cons]
  by_cases e : v = k.toNat
  · rw [if_pos e, if_pos (by omega), e]
  · rw [if_neg e, if_neg (by omega), Int.add_zero]
theorem cntL_sum {m : Nat} : ∀ {l : List Int}, (∀ x ∈ l, 0 ≤ x ∧ x < m) → sumZ (cntL m l) = l.length
  | [], _ => by
    have h : ∀ (l : List Nat), sumZ (l.map fun (v : Nat) => occ [] (v : Int)) = 0 := by
      intro l
      induction l with
      | nil => rfl
      | cons a l ih => rw [List.map_cons, sumZ, ih]; rfl
    exact h _
  | k :: l, h => by
    have hk := h k List.mem_cons_self
    rw [cntL_cons hk.1 hk.2, sumZ_set (by rw [cntL_len]; omega), cntL_sum fun x hx => h x (List.mem_cons_of_mem _ hx), List.length_cons]
    omega
theorem lft_start {l : List Int} (hr : ∀ x ∈ l, 0 ≤ x ∧ x < ((l.length + 2 : Nat) : Int)) : Lft (l.length + 2) (cntL (l.length + 2) l) l where
  len := cntL_len _ _
  rng := hr
  at_ := fun v hv => .inr (cntL_at hv)
  dead := by
    have : deadZ (cntL (l.length + 2) l) = 0 := by
      unfold deadZ
      rw [List.countP_eq_zero]
      intro x hx
      obtain ⟨v, _, rfl⟩ := List.mem_map.1 hx
      have := occ_pos (l := l) (v := (v : Int))
      simp; omega
    omega
  sum := by
    have : deadZ (cntL (l.length + 2) l) = 0 := by
      unfold deadZ
      rw [List.countP_eq_zero]
      intro x hx
      obtain ⟨v, _, rfl⟩ := List.mem_map.1 hx
      have := occ_pos (l := l) (v := (v : Int))
      simp; omega
    rw [cntL_sum hr, this]; omega
theorem cntL_pos {m v : Nat} {l : List Int} : 0 ≤ (cntL m l).getD v 0 := by
  by_cases h : v < m
  · rw [cntL_at h]; exact occ_pos
  · rw [getD_ge _ _ _ (by rw [cntL_len]; omega)]; omega
def badK (l : List Int) (k : Int) : Bool := decide (k < 0) || decide ((l.length : Int) + 1 < k)
def decErr (l : List Int) : Int := if 10 < l.length then 2 else if l.any (badK l) = true then 4 else 0
theorem decErr_ok {l : List Int} (h : decErr l = 0) : l.length ≤ 10 ∧ ∀ x ∈ l, 0 ≤ x ∧ x < ((l.length + 2 : Nat) : Int) := by
  unfold decErr at h
  split at h
  · cases h
  · split at h
    · cases h
    · rename_i h1 h2
      refine ⟨by omega, fun x hx => ?_⟩
      have h3 : badK l x = false := by
        cases hc : badK l x
        · rfl
        · exact absurd (List.any_eq_true.2 ⟨x, hx, hc⟩) h2
      unfold badK at h3
      rw [Bool.or_eq_false_iff] at h3
      have := of_decide_eq_false h3.1; have := of_decide_eq_false h3.2
      omega
theorem dec_inR {n : Nat} {L r : List Int} (h : Lft n L r) : InR n (decT L r) := fun a ha => by
  have := dec_in h a ha; omega
theorem dec_err {n : Nat} {L r : List Int} (h : Lft n L r) (h1 : 1 ≤ n) (hn : n ≤ 12) (hr : r.length ≤ 10) : graphErr n (decT L r) (-10000) = 0 := by
  refine GOk.err ⟨by omega, by omega, by rw [dec_len]; omega, fun a ha => ?_⟩
  have := dec_in h a ha
  exact ⟨by omega, by omega, by omega, by omega, by omega, by omega⟩
theorem dec_zero {n : Nat} {L r : List Int} (h : Lft n L r) (h0 : 0 < n) (hn : n ≤ 12) (hp : ∀ v : Nat, v < n → 0 ≤ L.getD v 0) : joinedOf n (decT L r) = List.replicate n 0 := by
  refine list_ext 0 (by rw [joinedOf_len]; simp) fun v hv => ?_
  rw [joinedOf_len] at hv
  have hvn : (v : Int) < (n : Int) := by omega
  have hA := dec_inR h
  unfold joinedOf
  rw [getD_lt ((List.range (n : Int).toNat).map _) 0 v (by simpa using hv)]
  simp only [List.getElem_map, List.getElem_range]
  obtain ⟨p, hw⟩ := dec_joined h v 0 (by omega) h0 (hp v (by omega)) (hp 0 h0)
  have hyes : finB (((waysOf n (bothA (decT L r))).getD v []).getD 0 0) = true := by
    rw [waysOf_at (v := 0) hvn (by omega), finB_dist (by omega) hA.both]
    exact ⟨p, hw⟩
  rw [idxOf_at (i := 0) (fun j hj => by omega) (by rw [row_len hvn]; omega) hyes, getD_lt _ 0 v (by simp; omega)]
  simp
def adjT (es : List Arc) (v u : Nat) : Bool := es.any fun a => (decide (a.src = v) && decide (a.dst = u)) || (decide (a.dst = v) && decide (a.src = u))
structure NearM (N : List Int) (es : List Arc) : Prop where
  len : N.length = 12
  rng : ∀ v : Nat, 0 ≤ N.getD v 0 ∧ N.getD v 0 ≤ 4095
  bit : ∀ v u : Nat, v < 12 → has (N.getD v 0) u = adjT es v u
theorem occ_le {l : List Int} {v : Int} : occ l v ≤ l.length := by
  unfold occ; have := List.countP_le_length (p := fun x => decide (x = v)) (l := l); omega
theorem cntL_le {m v : Nat} {l : List Int} : 0 ≤ (cntL m l).getD v 0 ∧ (cntL m l).getD v 0 ≤ l.length := by
  refine ⟨cntL_pos, ?_⟩
  by_cases h : v < m
  · rw [cntL_at h]; exact occ_le
  · rw [getD_ge _ _ _ (by rw [cntL_len]; omega)]; omega
theorem cntL_nil {m : Nat} : cntL m [] = List.replicate m 0 := by
  refine list_ext 0 (by simp [cntL_len]) fun v hv => ?_
  rw [cntL_len] at hv
  rw [cntL_at hv, getD_lt _ 0 v (by simpa using hv), List.getElem_replicate]; rfl
theorem Lft.hi {n : Nat} {L r : List Int} (h : Lft n L r) {v : Nat} (hv : v < n) : L.getD v 0 ≤ r.length := by
  have := occ_le (l := r) (v := (v : Int))
  rcases h.at_ v hv with q | q <;> omega
theorem drop_cons {l : List Int} {i : Nat} (h : i < l.length) : l.drop i = l.getD i 0 :: l.drop (i + 1) := by
  rw [getD_lt _ 0 i h, List.drop_eq_getElem_cons h]
theorem fst0_none {l : List Int} (h : ∀ j, j < l.length → l.getD j 0 ≠ 0) : fst0 l = -1 :=
  idxOf_none (d := 0) fun j hj => decide_eq_false fun q => h j hj q.symm
end Go.Ab
