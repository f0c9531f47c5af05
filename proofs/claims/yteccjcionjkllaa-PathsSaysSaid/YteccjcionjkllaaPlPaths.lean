/- Of ways that have no arc in common, and of what parts them (MENGER): the plain laws. -/
import Derived.Test.YteccjcionjkllaaPlSplit2
import Derived.Test.YteccjcionjkllaaPlStable
namespace Go.Ab
def unitA (a : Arc) : Arc := ⟨a.src, a.dst, 1⟩
def units (es : List Arc) : List Arc := es.map unitA
theorem units_len (es : List Arc) : (units es).length = es.length := by simp [units]
theorem units_at {es : List Arc} {k : Nat} (hk : k < es.length) : (units es).getD k default = ⟨(es.getD k default).src, (es.getD k default).dst, 1⟩ := by
  unfold units
  simp only [List.getD_eq_getElem?_getD, List.getElem?_map, List.getElem?_eq_getElem hk, Option.map_some, Option.getD_some, unitA]
theorem NOk.units {n s t : Int} {es : List Arc} (h : NOk n s t es) : NOk n s t (Go.Ab.units es) :=
  ⟨⟨h.n1, h.n2, by rw [units_len]; exact h.len, fun a ha => by
    obtain ⟨b, hb, rfl⟩ := List.mem_map.1 ha
    obtain ⟨h1, h2, h3, h4, h5, h6⟩ := h.arc b hb
    exact ⟨h1, h2, h3, h4, by show (0 : Int) ≤ 1; omega, by show (1 : Int) ≤ 10000; omega⟩⟩, h.s0, h.s1, h.t0, h.t1, h.ne⟩
theorem isWay_units {es : List Arc} : ∀ {w : List Int} {s t : Int}, isWay (units es) w s t = true → isWay es w s t = true
  | [], _, _, h => h
  | k :: r, s, t, h => by
    simp only [isWay, Bool.and_eq_true, decide_eq_true_eq, units_len] at h ⊢
    obtain ⟨⟨h1, h2, h3⟩, h4⟩ := h
    rw [units_at (by omega)] at h3 h4
    exact ⟨⟨h1, h2, h3⟩, isWay_units h4⟩
theorem usedOf_mem {es : List Arc} {k : Nat} : ∀ {l : List (Int × List Int)}, (∀ p ∈ l, PcOk es p) → ∀ q ∈ l, (k : Int) ∈ q.2 → q.1 ≤ usedOf k l
  | p :: r, h, q, hq, hk => by
    obtain ⟨x, y, hp⟩ := h p List.mem_cons_self
    have h1 := hp.a1
    have h2 := usedOf_nonneg (es := es) k (fun u hu => h u (List.mem_cons_of_mem _ hu))
    simp only [usedOf]
    rcases List.mem_cons.1 hq with rfl | hq
    · rw [if_pos hk]; omega
    · have := usedOf_mem (fun u hu => h u (List.mem_cons_of_mem _ hu)) q hq hk
      split <;> omega
theorem flat_nodup {es : List Arc} : ∀ {l : List (Int × List Int)}, (∀ p ∈ l, PcOk es p) → (∀ k : Nat, usedOf k l ≤ 1) → (l.map fun p => p.2).flatten.Nodup
  | [], _, _ => by simp
  | p :: r, h, hu => by
    obtain ⟨x, y, hp⟩ := h p List.mem_cons_self
    have h1 := hp.a1
    have hr := fun u hu => h u (List.mem_cons_of_mem p hu)
    have h2 := fun k => usedOf_nonneg (es := es) k hr
    simp only [List.map_cons, List.flatten_cons]
    refine List.nodup_append.2 ⟨hp.nd, flat_nodup hr (fun k => ?_), fun a ha b hb e => ?_⟩
    · have := hu k
      simp only [usedOf] at this
      split at this <;> omega
    · subst e
      obtain ⟨w, hw, hab⟩ := List.mem_flatten.1 hb
      obtain ⟨q, hq, rfl⟩ := List.mem_map.1 hw
      have hkr := hp.kr a ha
      have hac : ((a.toNat : Nat) : Int) = a := by omega
      have h3 := usedOf_mem (k := a.toNat) hr q hq (by rw [hac]; exact hab)
      obtain ⟨_, _, hq2⟩ := hr q hq
      have := hq2.a1
      have h4 := hu a.toNat
      simp only [usedOf] at h4
      rw [hac, if_pos ha] at h4
      omega
theorem sum_ones {l : List (Int × List Int)} (h : ∀ p ∈ l, p.1 = 1) : sumOf l = l.length := by
  induction l with
  | nil => rfl
  | cons p r ih =>
    have h1 := h p List.mem_cons_self
    have h2 := ih fun q hq => h q (List.mem_cons_of_mem _ hq)
    simp only [sumOf, List.length_cons]
    omega
/-- Ways that have no arc in common. -/
structure Apart (es : List Arc) (s t : Int) (W : List (List Int)) : Prop where
  way : ∀ w ∈ W, isWay es w s t = true
  nd : W.flatten.Nodup
  inr : ∀ w ∈ W, ∀ k ∈ w, 0 ≤ k ∧ k < es.length
theorem apart_of {n s t v : Int} {es : List Arc} {g : List Int} {ways rounds : List (Int × List Int)} {e : Int} (hok : NOk n s t (units es)) (hf : FlOk n s t (units es) g) (hv : gone (units es) g s = v) (hp : v = (parted n s t (units es)).1) (hso : SplitOk n s t (units es) g ways rounds e) :
    Apart es s t (ways.map fun p => p.2) ∧ ((ways.length : Nat) : Int) = (parted n s t (units es)).1 := by
  have hE := flowErr_of hf hok.err
  obtain ⟨z, hz⟩ := MinCut.exists_ hok
  have hpos : 0 ≤ (parted n s t (units es)).1 := by rw [← hz.2]; exact (capOf_in hok.toGOk hz.1.1).1
  rcases hso with ⟨q, _⟩ | ⟨_, q, _⟩ | ⟨_, _, _, h1, h2, h3, h4, h5⟩
  · exact absurd hE q
  · omega
  · have hokw : ∀ p ∈ ways, PcOk (units es) p := fun p hp => ⟨_, _, h1 p hp⟩
    have hokr : ∀ p ∈ rounds, PcOk (units es) p := fun p hp => by obtain ⟨x, hx⟩ := h2 p hp; exact ⟨_, _, hx⟩
    have hle1 : ∀ k : Nat, usedOf k ways ≤ 1 := fun k => by
      by_cases hk : k < es.length
      · have e1 := h3 k (by rw [units_len]; exact hk)
        have e2 := usedOf_nonneg (es := units es) k hokr
        have e3 := hf.fin.at_ k (by rw [units_len]; exact hk)
        rw [units_at hk] at e3
        simp only at e3
        omega
      · have : ∀ {l : List (Int × List Int)}, (∀ p ∈ l, PcOk (units es) p) → usedOf k l = 0 := by
          intro l
          induction l with
          | nil => intro _; rfl
          | cons p r ih =>
            intro hl
            obtain ⟨x, y, hp⟩ := hl p List.mem_cons_self
            simp only [usedOf]
            rw [if_neg (fun hm => by have := hp.kr _ hm; rw [units_len] at this; omega), ih (fun q hq => hl q (List.mem_cons_of_mem _ hq))]
            rfl
        rw [this hokw]; omega
    have hone : ∀ p ∈ ways, p.1 = 1 := fun p hp => by
      have hP := h1 p hp
      obtain ⟨k, hk⟩ := List.exists_mem_of_ne_nil _ hP.ne
      have hkr := hP.kr k hk
      have hkc : ((k.toNat : Nat) : Int) = k := by omega
      have e1 := usedOf_mem (k := k.toNat) hokw p hp (by rw [hkc]; exact hk)
      have e2 := hle1 k.toNat
      have e3 := hP.a1
      omega
    refine ⟨⟨fun w hw => ?_, flat_nodup hokw hle1, fun w hw k hk => ?_⟩, ?_⟩
    · obtain ⟨p, hp, rfl⟩ := List.mem_map.1 hw
      exact isWay_units (h1 p hp).way
    · obtain ⟨p, hp, rfl⟩ := List.mem_map.1 hw
      have := (h1 p hp).kr k hk
      rwa [units_len] at this
    · rw [← sum_ones hone, h4, hv, hp]

/-! ### The arcs that go out of a side -/
def outB (z : Int) (a : Arc) : Bool := decide (bit z a.src = 1) && decide (bit z a.dst = 0)
def barTo (es : List Arc) (z : Int) : Nat → List Int
  | 0 => []
  | k + 1 => if outB z (es.getD k default) = true then barTo es z k ++ [(k : Int)] else barTo es z k
theorem barTo_mem {es : List Arc} {z x : Int} : ∀ {k : Nat}, x ∈ barTo es z k ↔ 0 ≤ x ∧ x < k ∧ outB z (es.getD x.toNat default) = true
  | 0 => by simp [barTo]; omega
  | k + 1 => by
    have ih := barTo_mem (es := es) (z := z) (x := x) (k := k)
    unfold barTo
    split
    · rename_i h
      rw [List.mem_append, List.mem_singleton, ih]
      constructor
      · rintro (⟨a, b, c⟩ | rfl)
        · exact ⟨a, by omega, c⟩
        · exact ⟨by omega, by omega, by rw [Int.toNat_natCast]; exact h⟩
      · rintro ⟨a, b, c⟩
        by_cases e : x = k
        · exact .inr e
        · exact .inl ⟨a, by omega, c⟩
    · rename_i h
      rw [ih]
      constructor
      · rintro ⟨a, b, c⟩; exact ⟨a, by omega, c⟩
      · rintro ⟨a, b, c⟩
        refine ⟨a, ?_, c⟩
        by_cases e : x = k
        · rw [e, Int.toNat_natCast] at c; exact absurd c h
        · omega
theorem barTo_up {es : List Arc} {z : Int} : ∀ {k : Nat}, (barTo es z k).Pairwise (· < ·)
  | 0 => List.Pairwise.nil
  | k + 1 => by
    unfold barTo
    split
    · refine List.pairwise_append.2 ⟨barTo_up, List.pairwise_singleton _ _, fun a ha b hb => ?_⟩
      rw [List.mem_singleton.1 hb]
      exact (barTo_mem.1 ha).2.1
    · exact barTo_up
theorem capOf_take {z : Int} {es : List Arc} {k : Nat} (hz : 0 ≤ z) (hk : k ≤ es.length) : capOf ((units es).take k) z = ((barTo es z k).length : Int) := by
  induction k with
  | zero => simp [capOf, barTo]
  | succ k ih =>
    have h1 := ih (by omega)
    rw [take_getD (units es) default k (by rw [units_len]; omega), capOf_append, h1, units_at (by omega)]
    simp only [capOf, barTo]
    rw [cap_if hz]
    by_cases hc : bit z (es.getD k default).src = 1 ∧ bit z (es.getD k default).dst = 0
    · have ho : outB z (es.getD k default) = true := by unfold outB; rw [decide_eq_true hc.1, decide_eq_true hc.2]; rfl
      rw [if_pos hc, if_pos ho, List.length_append, List.length_singleton]
      omega
    · have ho : ¬ outB z (es.getD k default) = true := fun q => by
        simp only [outB, Bool.and_eq_true, decide_eq_true_eq] at q
        exact hc q
      rw [if_neg hc, if_neg ho]
      omega
theorem bar_len {n s t z : Int} {es : List Arc} (h : MinCut n s t (units es) z) : ((barTo es z es.length).length : Int) = (parted n s t (units es)).1 := by
  rw [← h.2, ← capOf_take h.1.1 (Nat.le_refl _), List.take_of_length_le (by rw [units_len]; exact Nat.le_refl _)]
theorem up_at {l : List Int} (h : l.Pairwise (· < ·)) {i j : Nat} (hi : i < j) (hj : j < l.length) : l.getD i 0 < l.getD j 0 := by
  rw [getD_lt _ _ _ hj, getD_lt _ _ _ (by omega)]
  exact List.pairwise_iff_getElem.1 h i j (by omega) hj hi
/-- The arcs that are left, when some are taken away. -/
def restTo (es : List Arc) (bar : List Int) : Nat → List Arc
  | 0 => []
  | k + 1 => if 0 ≤ rk bar (k : Int) then restTo es bar k else restTo es bar k ++ [es.getD k default]
theorem restTo_mem {es : List Arc} {bar : List Int} {a : Arc} : ∀ {k : Nat}, a ∈ restTo es bar k → ∃ j, j < k ∧ a = es.getD j default ∧ (j : Int) ∉ bar
  | 0, h => by cases h
  | k + 1, h => by
    unfold restTo at h
    split at h
    · obtain ⟨j, h1, h2⟩ := restTo_mem h
      exact ⟨j, by omega, h2⟩
    · rename_i hc
      rcases List.mem_append.1 h with h | h
      · obtain ⟨j, h1, h2⟩ := restTo_mem h
        exact ⟨j, by omega, h2⟩
      · exact ⟨k, by omega, List.mem_singleton.1 h, fun q => hc (mem_rk.1 q)⟩
theorem restTo_len (es : List Arc) (bar : List Int) : ∀ k, (restTo es bar k).length ≤ k
  | 0 => Nat.le_refl _
  | k + 1 => by
    have := restTo_len es bar k
    unfold restTo
    split
    · omega
    · rw [List.length_append, List.length_singleton]; omega
theorem rest_no {es : List Arc} {z : Int} (hz : 0 ≤ z) {k : Nat} : ∀ {j : Nat} {u v : Int}, wk (restTo es (barTo es z es.length) es.length) j u v = true → bit z u = 1 → (k = 0 → True) → bit z v = 1
  | 0, u, v, h, hu, _ => by rw [wk_zero] at h; rw [← h]; exact hu
  | j + 1, u, v, h, hu, _ => by
    obtain ⟨a, ha, h1, h2⟩ := wk_succ.1 h
    obtain ⟨i, hi, rfl, hni⟩ := restTo_mem ha
    refine rest_no hz (k := 0) h2 ?_ (fun _ => trivial)
    rcases bit_01 (es.getD i default).dst hz with q | q
    · exfalso
      refine hni (barTo_mem.2 ⟨by omega, by omega, ?_⟩)
      rw [Int.toNat_natCast]
      unfold outB
      rw [decide_eq_true (by rw [h1]; exact hu), decide_eq_true q]; rfl
    · exact q
theorem rest_inR {n : Int} {es : List Arc} {bar : List Int} (hA : InR n es) : InR n (restTo es bar es.length) := fun a ha => by
  obtain ⟨j, hj, rfl, _⟩ := restTo_mem ha
  exact hA _ (getD_mem hj)
theorem rest_far {n s t z : Int} {es : List Arc} (h12 : n ≤ 12) (hA : InR n es) (h : MinCut n s t (units es) z) : dist (restTo es (barTo es z es.length) es.length) s t = 1099511627776 := by
  rcases dist_cases h12 (rest_inR (bar := barTo es z es.length) hA) s t with ⟨k, _, _, q, _⟩ | ⟨q, _⟩
  · exfalso
    have h1 := rest_no (k := 0) h.1.1 q h.1.2.2.1 (fun _ => trivial)
    have h2 := h.1.2.2.2
    omega
  · exact q

theorem barTo_le (es : List Arc) (z : Int) : ∀ k, (barTo es z k).length ≤ k
  | 0 => Nat.le_refl _
  | k + 1 => by
    have := barTo_le es z k
    unfold barTo
    split
    · rw [List.length_append, List.length_singleton]; omega
    · omega
theorem barTo_yes {es : List Arc} {z : Int} {k : Nat} (h : bit z (es.getD k default).src = 1 ∧ bit z (es.getD k default).dst = 0) : barTo es z (k + 1) = barTo es z k ++ [(k : Int)] := by
  have ho : outB z (es.getD k default) = true := by unfold outB; rw [decide_eq_true h.1, decide_eq_true h.2]; rfl
  rw [barTo, if_pos ho]
theorem barTo_no {es : List Arc} {z : Int} {k : Nat} (h : ¬ (bit z (es.getD k default).src = 1 ∧ bit z (es.getD k default).dst = 0)) : barTo es z (k + 1) = barTo es z k := by
  have ho : ¬ outB z (es.getD k default) = true := fun q => by
    simp only [outB, Bool.and_eq_true, decide_eq_true_eq] at q
    exact h q
  rw [barTo, if_neg ho]
theorem restTo_yes {es : List Arc} {bar : List Int} {k : Nat} (h : 0 ≤ rk bar (k : Int)) : restTo es bar (k + 1) = restTo es bar k := by rw [restTo, if_pos h]
theorem restTo_no {es : List Arc} {bar : List Int} {k : Nat} (h : ¬ 0 ≤ rk bar (k : Int)) : restTo es bar (k + 1) = restTo es bar k ++ [es.getD k default] := by rw [restTo, if_neg h]
theorem Apart.few {es : List Arc} {s t : Int} {W : List (List Int)} (h : Apart es s t W) : W.flatten.length ≤ es.length := by
  have := nodup_int (n := (es.length : Int)) h.nd (fun v hv => by
    obtain ⟨w, hw, hvw⟩ := List.mem_flatten.1 hv
    exact h.inr w hw v hvw)
  omega
def ApRes (n s t : Int) (es : List Arc) (W : List (List Int)) (e : Int) : Prop := (netErr n s t es ≠ 0 ∧ e = netErr n s t es ∧ W = []) ∨ (netErr n s t es = 0 ∧ e = 0 ∧ Apart es s t W ∧ ((W.length : Nat) : Int) = (parted n s t (units es)).1)
theorem bar_ends {es : List Arc} {z : Int} {m : Int} (hm : m = ((barTo es z es.length).length : Int)) (h0 : m ≠ 0) : 0 ≤ (barTo es z es.length).getD 0 0 ∧ (barTo es z es.length).getD (m - 1).toNat 0 < es.length := by
  have h1 := barTo_mem.1 (getD_mem (xs := barTo es z es.length) (d := 0) (i := 0) (by omega))
  have h2 := barTo_mem.1 (getD_mem (xs := barTo es z es.length) (d := 0) (i := (m - 1).toNat) (by omega))
  exact ⟨h1.1, h2.2.1⟩
end Go.Ab
