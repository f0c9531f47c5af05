/- Of ways that have no arc in common, and of what parts them (MENGER): the plain laws. -/
import Derived.Test.YteccjcionjkllaaPlSplit2
import Derived.Test.YteccjcionjkllaaPlStable
namespace Go.Ab
theorem usedOf_mem {es : List Arc} {k : Nat} : ∀ {l : List (Int × List Int)}, (∀ p ∈ l, PcOk es p) → ∀ q ∈ l, (k : Int) ∈ q.2 → q.1 ≤ usedOf k l
  | p :: r, h, q, hq, hk => by
    obtain ⟨x, y, hp⟩ := h p List.mem_cons_self
    have h1 := hp.a1
    have h2 := usedOf_nonneg (es := es) k (fun u hu => h u (List.mem_cons_of_mem _ hu))
    simp only [usedOf]
    rcases List.mem_cons.1 hq with rfl | hq
    · rw [if_pos hk]; omega
    · have := usedOf_mem (fun u hu => h u (List.mem_cons_of_mem _ hu)) q hq hk
      split <;> omega
theorem flat_nodup {es : List Arc} : ∀ {l : List (Int × List Int)}, (∀ p ∈ l, PcOk es p) → (∀ k : Nat, usedOf k l ≤ 1) → (l.map fun p => p.2).flatten.Nodup
  | [], _, _ => by simp
  | p :: r, h, hu => by
    obtain ⟨x, y, hp⟩ := h p List.mem_cons_self
    have h1 := hp.a1
    have hr := fun u hu => h u (List.mem_cons_of_mem p hu)
    have h2 := fun k => usedOf_nonneg (es := es) k hr
    simp only [List.map_cons, List.flatten_cons]
    refine List.nodup_append.2 ⟨hp.nd, flat_nodup hr (fun k => ?_), fun a ha b hb e => ?_⟩
    · have := hu k
      simp only [usedOf] at this
      split at this <;> omega
    · subst e
      obtain ⟨w, hw, hab⟩ := List.mem_flatten.1 hb
      obtain ⟨q, hq, rfl⟩ := List.mem_map.1 hw
      have hkr := hp.kr a ha
      have hac : ((a.toNat : Nat) : Int) = a := by omega
      have h3 := usedOf_mem (k := a.toNat) hr q hq (by rw [hac]; exact hab)
      obtain ⟨_, _, hq2⟩ := hr q hq
      have := hq2.a1
      have h4 := hu a.toNat
      simp only [usedOf] at h4
      rw [hac, if_pos ha] at h4
      omega
theorem sum_ones {l : List (Int × List Int)} (h : ∀ p ∈ l, p.1 = 1) : sumOf l = l.length := by
  induction l with
  | nil => rfl
  | cons p r ih =>
    have h1 := h p List.mem_cons_self
    have h2 := ih fun q hq => h q (List.mem_cons_of_mem _ hq)
    simp only [sumOf, List.length_cons]
    omega
structure Apart (es : List Arc) (s t : Int) (W : List (List Int)) : Prop where
  way : ∀ w ∈ W, isWay es w s t = true
  nd : W.flatten.Nodup
  inr : ∀ w ∈ W, ∀ k ∈ w, 0 ≤ k ∧ k < es.length
theorem up_at {l : List Int} (h : l.Pairwise (· < ·)) {i j : Nat} (hi : i < j) (hj : j < l.length) : l.getD i 0 < l.getD j 0 := by
  rw [getD_lt _ _ _ hj, getD_lt _ _ _ (by omega)]
  exact List.pairwise_iff_getElem.1 h i j (by omega) hj hi
theorem Apart.few {es : List Arc} {s t : Int} {W : List (List Int)} (h : Apart es s t W) : W.flatten.length ≤ es.length := by
  have := nodup_int (n := (es.length : Int)) h.nd (fun v hv => by
    obtain ⟨w, hw, hvw⟩ := List.mem_flatten.1 hv
    exact h.inr w hw v hvw)
  omega
end Go.Ab
