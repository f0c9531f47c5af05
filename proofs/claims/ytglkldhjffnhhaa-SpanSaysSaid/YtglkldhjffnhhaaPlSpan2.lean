/- Of the least bound between two nodes, by the nodes on the way: the plain laws. -/
import Derived.Test.YtglkldhjffnhhaaPlSpan
namespace Go.Ab
def bigW : Int := 1099511627776
def Ec (n : Nat) (es : List Arc) (c : Int) (u v : Nat) : Prop := u < n ∧ v < n ∧ ∃ a ∈ bothA es, a.src = u ∧ a.dst = v ∧ a.cap ≤ c
structure Wd (n : Nat) (es : List Arc) (D : List (List Int)) : Prop where
  sq : Sq n D
  lim : ∀ u v, u < n → v < n → -bigW ≤ at2 D u v ∧ at2 D u v ≤ bigW
  sound : ∀ u v c, u < n → v < n → -bigW ≤ c → c < bigW → at2 D u v ≤ c → Lk (capA es c) u v
  self : ∀ u, u < n → at2 D u u ≤ -bigW
theorem wd_init {n : Nat} {es : List Arc} {D : List (List Int)} (hl : D.length = n) (hr : ∀ r, r < n → D.getD r [] = (List.replicate n (1099511627776 : Int)).set r (-1099511627776)) : Wd n es D := by
  have hat : ∀ u v, u < n → v < n → at2 D u v = if u = v then -1099511627776 else 1099511627776 := fun u v hu hv => by
    unfold at2
    rw [hr u hu]
    by_cases e : u = v
    · subst e; rw [getD_set_self _ _ _ _ (by simpa using hu), if_pos rfl]
    · rw [getD_set_ne _ _ _ _ _ e, if_neg e, getD_lt _ _ _ (by simpa using hv)]; simp
  refine ⟨⟨hl, fun r hr' => by rw [hr r hr']; simp⟩, fun u v hu hv => ?_, fun u v c hu hv h0 h1 h2 => ?_, fun u hu => ?_⟩
  · rw [hat u v hu hv]; unfold bigW; split <;> omega
  · rw [hat u v hu hv] at h2
    unfold bigW at h0 h1
    by_cases e : u = v
    · subst e; exact .refl _
    · rw [if_neg e] at h2; omega
  · rw [hat u u hu hu, if_pos rfl]; unfold bigW; omega
theorem wd_step {n i : Nat} {D : List (List Int)} (hl : D.length = n) (hi : i < n) (hr : ∀ r, r < i → D.getD r [] = (List.replicate n (1099511627776 : Int)).set r (-1099511627776)) :
    ((D.set i (List.replicate n (1099511627776 : Int))).set i (((D.set i (List.replicate n (1099511627776 : Int))).getD i []).set i (-1099511627776))).length = n ∧ ∀ r, r < i + 1 → ((D.set i (List.replicate n (1099511627776 : Int))).set i (((D.set i (List.replicate n (1099511627776 : Int))).getD i []).set i (-1099511627776))).getD r [] = (List.replicate n (1099511627776 : Int)).set r (-1099511627776) := by
  refine ⟨by rw [List.length_set, List.length_set]; exact hl, fun r hr' => ?_⟩
  rw [row_put hl hi]
  rcases Nat.lt_succ_iff_lt_or_eq.1 hr' with q | q
  · rw [getD_set_ne _ _ _ _ _ (by omega), getD_set_ne _ _ _ _ _ (by omega)]; exact hr r q
  · subst q; rw [getD_set_self _ _ _ _ (by rw [List.length_set]; omega)]
theorem Wd.put {n : Nat} {es : List Arc} {D : List (List Int)} (h : Wd n es D) {f t : Nat} (hf : f < n) (ht : t < n) {x : Int} (hx : x ≤ at2 D f t) (h0 : -bigW ≤ x) (hs : ∀ c, -bigW ≤ c → c < bigW → x ≤ c → Lk (capA es c) f t) : Wd n es (put2 D f t x) := by
  refine ⟨h.sq.put, fun u v hu hv => ?_, fun u v c hu hv a b d => ?_, fun u hu => ?_⟩
  · rw [at_put h.sq hf ht]
    have q1 := h.lim u v hu hv
    have q2 := h.lim f t hf ht
    split <;> omega
  · rw [at_put h.sq hf ht] at d
    split at d
    · rename_i e; obtain ⟨rfl, rfl⟩ := e; exact hs c a b d
    · exact h.sound u v c hu hv a b d
  · have := put_le h.sq hf ht hx u u
    have := h.self u hu
    omega
structure WdA (n : Nat) (es : List Arc) (D : List (List Int)) (k : Nat) : Prop extends Wd n es D where
  arcs : ∀ j, j < k → at2 D ((bothA es).getD j default).src.toNat ((bothA es).getD j default).dst.toNat ≤ ((bothA es).getD j default).cap
theorem WdA.step {n : Nat} {es : List Arc} {D : List (List Int)} {k : Nat} (h : WdA n es D k) (hA : InR n (bothA es)) (hk : k < (bothA es).length) (hc : -10000 ≤ ((bothA es).getD k default).cap ∧ ((bothA es).getD k default).cap ≤ 10000) :
    WdA n es (put2 D ((bothA es).getD k default).src.toNat ((bothA es).getD k default).dst.toNat (min (at2 D ((bothA es).getD k default).src.toNat ((bothA es).getD k default).dst.toNat) ((bothA es).getD k default).cap)) (k + 1) := by
  have hm := getD_mem (d := default) hk
  obtain ⟨h1, h2, h3, h4⟩ := hA _ hm
  generalize hb : (bothA es).getD k default = a at *
  have hf : a.src.toNat < n := by omega
  have ht : a.dst.toNat < n := by omega
  have hl := h.lim _ _ hf ht
  have hle : min (at2 D a.src.toNat a.dst.toNat) a.cap ≤ at2 D a.src.toNat a.dst.toNat := by omega
  refine ⟨h.toWd.put hf ht hle (by unfold bigW at *; omega) (fun c q0 q1 q2 => ?_), fun j hj => ?_⟩
  · rw [Int.toNat_of_nonneg h1, Int.toNat_of_nonneg h3]
    by_cases e : at2 D a.src.toNat a.dst.toNat ≤ c
    · have := h.sound _ _ c hf ht q0 q1 e
      rwa [Int.toNat_of_nonneg h1, Int.toNat_of_nonneg h3] at this
    · have hcc : a.cap ≤ c := by omega
      rcases mem_both.1 hm with q | ⟨b, q, rfl⟩
      · exact .arc (capA_mem.2 ⟨q, hcc⟩)
      · exact .symm (.arc (a := b) (capA_mem.2 ⟨q, hcc⟩))
  · by_cases e : j = k
    · subst e
      rw [hb, at_put h.sq hf ht, if_pos ⟨rfl, rfl⟩]; omega
    · have := put_le h.sq hf ht hle ((bothA es).getD j default).src.toNat ((bothA es).getD j default).dst.toNat
      have := h.arcs j (by omega)
      omega
structure WdM (n : Nat) (es : List Arc) (D : List (List Int)) (m i k : Nat) : Prop extends Wd n es D where
  all : ∀ u v c, -bigW ≤ c → c < bigW → Wl (Ec n es c) m u v → at2 D u v ≤ c
  more : ∀ u v c, -bigW ≤ c → c < bigW → (u < i ∨ (u = i ∧ v < k)) → Wl (Ec n es c) (m + 1) u v → at2 D u v ≤ c
theorem wl_in {n : Nat} {es : List Arc} {c : Int} {m u v : Nat} (h : Wl (Ec n es c) m u v) : u < n ∧ v < n := by
  induction h with
  | base h => exact ⟨h.1, h.2.1⟩
  | step _ _ he ih => exact ⟨ih.1, he.2.1⟩
theorem wl_zero {E : Nat → Nat → Prop} {u v : Nat} (h : Wl E 0 u v) : E u v := by
  cases h with
  | base h => exact h
  | step _ hj _ => omega
theorem WdA.go {n : Nat} {es : List Arc} {D : List (List Int)} {k : Nat} (h : WdA n es D k) (hk : (bothA es).length ≤ k) : WdM n es D 0 0 0 :=
  ⟨h.toWd, fun u v c _ _ hw => by
    obtain ⟨_, _, a, ha, e1, e2, e3⟩ := wl_zero hw
    obtain ⟨j, hj, rfl⟩ := List.getElem_of_mem ha
    have := h.arcs j (by omega)
    rw [getD_lt _ default j hj, e1, e2, Int.toNat_natCast, Int.toNat_natCast] at this
    omega, fun u v c _ _ hc => by omega⟩
theorem WdM.step {n : Nat} {es : List Arc} {D : List (List Int)} {m i k : Nat} (h : WdM n es D m i k) (hm : m < n) (hi : i < n) (hk : k < n) :
    WdM n es (put2 D i k (min (at2 D i k) (max (at2 D i m) (at2 D m k)))) m i (k + 1) := by
  have l1 := h.lim i k hi hk
  have l2 := h.lim i m hi hm
  have l3 := h.lim m k hm hk
  have hle : min (at2 D i k) (max (at2 D i m) (at2 D m k)) ≤ at2 D i k := by omega
  refine ⟨h.toWd.put hi hk hle (by omega) (fun c q0 q1 q2 => ?_), fun u v c a b w => ?_, fun u v c a b w1 w => ?_⟩
  · by_cases e : at2 D i k ≤ c
    · exact h.sound i k c hi hk q0 q1 e
    · exact (h.sound i m c hi hm q0 q1 (by omega)).trans (h.sound m k c hm hk q0 q1 (by omega))
  · have := put_le h.sq hi hk hle u v
    have := h.all u v c a b w
    omega
  · by_cases e : u = i ∧ v = k
    · obtain ⟨rfl, rfl⟩ := e
      rw [at_put h.sq hi hk, if_pos ⟨rfl, rfl⟩]
      rcases wl_split w with q | ⟨q1, q2⟩
      · have := h.all _ _ c a b q; omega
      · have := h.all _ _ c a b q1
        have := h.all _ _ c a b q2
        omega
    · have := put_le h.sq hi hk hle u v
      have := h.more u v c a b (by omega) w
      omega
theorem WdM.row {n : Nat} {es : List Arc} {D : List (List Int)} {m i k : Nat} (h : WdM n es D m i k) (hk : n ≤ k) : WdM n es D m (i + 1) 0 :=
  ⟨h.toWd, h.all, fun u v c a b w1 w => by
    have := wl_in w
    exact h.more u v c a b (by omega) w⟩
theorem WdM.round {n : Nat} {es : List Arc} {D : List (List Int)} {m i : Nat} (h : WdM n es D m i 0) (hi : n ≤ i) : WdM n es D (m + 1) 0 0 :=
  ⟨h.toWd, fun u v c a b w => by
    have := wl_in w
    exact h.more u v c a b (by omega) w, fun u v c _ _ hc => by omega⟩
theorem wk_wl {n : Nat} {es : List Arc} {c : Int} (hA : InR n es) : ∀ {k : Nat} {u : Nat} {v : Int}, wk (bothA (capA es c)) k u v = true → (u : Int) = v ∨ Wl (Ec n es c) n u v.toNat
  | 0, u, v, h => .inl (wk_zero.1 h)
  | k + 1, u, v, h => by
    obtain ⟨a, ha, h1, rfl⟩ := wk_snoc h
    have ih := wk_wl hA h1
    have hae : a ∈ bothA es ∧ a.cap ≤ c := by
      rcases mem_both.1 ha with q | ⟨b, q, rfl⟩
      · exact ⟨mem_both.2 (.inl (capA_mem.1 q).1), (capA_mem.1 q).2⟩
      · exact ⟨mem_both.2 (.inr ⟨b, (capA_mem.1 q).1, rfl⟩), (capA_mem.1 q).2⟩
    obtain ⟨b1, b2, b3, b4⟩ := hA.both a hae.1
    have hE : Ec n es c a.src.toNat a.dst.toNat := ⟨by omega, by omega, a, hae.1, by omega, by omega, hae.2⟩
    rcases ih with q | q
    · have e : a.src.toNat = u := by omega
      exact .inr (.base (e ▸ hE))
    · exact .inr (.step q (by omega) hE)
theorem WdM.end_ {n : Nat} {es : List Arc} {D : List (List Int)} {m : Nat} (h : WdM n es D m 0 0) (hm : m = n) (hA : InR n es) {s t : Nat} (hs : s < n) (ht : t < n) :
    (∀ c, -bigW ≤ c → c < bigW → (at2 D s t ≤ c ↔ Lk (capA es c) s t)) ∧ -bigW ≤ at2 D s t ∧ at2 D s t ≤ bigW := by
  subst hm
  refine ⟨fun c a b => ⟨h.sound s t c hs ht a b, fun hl => ?_⟩, h.lim s t hs ht⟩
  obtain ⟨k, hk⟩ := lk_wk hl
  rcases wk_wl hA hk with q | q
  · have e : s = t := by omega
    subst e
    have := h.self s hs
    omega
  · rw [Int.toNat_natCast] at q
    exact h.all s t c a b q
/-- Wide and the reference answer alike. -/
theorem wide_same {es : List Arc} {s t x c e : Int} (hx : ∀ c, -bigW ≤ c → c < bigW → (x ≤ c ↔ Lk (capA es c) s t)) (h0 : -bigW ≤ x)
    (hW : (e = 0 ∧ Lk (capA es c) s t ∧ (∀ c', c' < c → ¬ Lk (capA es c') s t) ∧ -10000 ≤ c ∧ c ≤ 10000) ∨ (e = 5 ∧ c = 0 ∧ ∀ c', ¬ Lk (capA es c') s t)) : (e = 0 ∧ x < bigW ∧ c = x) ∨ (e = 5 ∧ c = 0 ∧ ¬ x < bigW) := by
  rcases hW with ⟨h2, h3, h4, h5, h6⟩ | ⟨h2, h3, h4⟩
  · have q1 := (hx c (by unfold bigW; omega) (by unfold bigW; omega)).2 h3
    have q2 : x < bigW := by unfold bigW; omega
    refine .inl ⟨h2, q2, ?_⟩
    rcases Int.lt_or_eq_of_le q1 with q | q
    · exact absurd ((hx x h0 q2).1 (Int.le_refl _)) (h4 x q)
    · exact q.symm
  · exact .inr ⟨h2, h3, fun q => h4 x ((hx x h0 q).1 (Int.le_refl _))⟩
end Go.Ab
