/- Of trees whose least weights part any two nodes: the plain laws. -/
import Derived.Test.YtakfbagokponeaaPlA
import Derived.Test.YtakfbagokponeaaPlA
namespace Go.Ab
def cutP (p : Nat → Bool) : List Arc → Int
  | [] => 0
  | a :: r => (if p a.src.toNat = p a.dst.toNat then 0 else a.cap) + cutP p r
theorem cutP_congr {p q : Nat → Bool} : ∀ {es : List Arc}, (∀ a ∈ es, p a.src.toNat = q a.src.toNat ∧ p a.dst.toNat = q a.dst.toNat) → cutP p es = cutP q es
  | [], _ => rfl
  | a :: r, h => by
    have h1 := h a List.mem_cons_self
    simp only [cutP, h1.1, h1.2, cutP_congr (fun b hb => h b (List.mem_cons_of_mem _ hb))]
theorem cutP_not (p : Nat → Bool) : ∀ es : List Arc, cutP (fun v => !p v) es = cutP p es
  | [] => rfl
  | a :: r => by
    simp only [cutP, cutP_not p r]
    by_cases h1 : p a.src.toNat = true <;> by_cases h2 : p a.dst.toNat = true <;> simp [h1, h2]
theorem cutP_sub (p q : Nat → Bool) : ∀ {es : List Arc}, (∀ a ∈ es, 0 ≤ a.cap) → cutP (fun v => p v || q v) es + cutP (fun v => p v && q v) es ≤ cutP p es + cutP q es
  | [], _ => by simp [cutP]
  | a :: r, h => by
    have h1 := h a List.mem_cons_self
    have h2 := cutP_sub p q (fun b hb => h b (List.mem_cons_of_mem _ hb))
    simp only [cutP]
    by_cases k1 : p a.src.toNat = true <;> by_cases k2 : p a.dst.toNat = true <;> by_cases k3 : q a.src.toNat = true <;> by_cases k4 : q a.dst.toNat = true <;> simp [k1, k2, k3, k4] <;> omega
theorem cutP_diff (p q : Nat → Bool) : ∀ {es : List Arc}, (∀ a ∈ es, 0 ≤ a.cap) → cutP (fun v => p v && !q v) es + cutP (fun v => q v && !p v) es ≤ cutP p es + cutP q es
  | [], _ => by simp [cutP]
  | a :: r, h => by
    have h1 := h a List.mem_cons_self
    have h2 := cutP_diff p q (fun b hb => h b (List.mem_cons_of_mem _ hb))
    simp only [cutP]
    by_cases k1 : p a.src.toNat = true <;> by_cases k2 : p a.dst.toNat = true <;> by_cases k3 : q a.src.toNat = true <;> by_cases k4 : q a.dst.toNat = true <;> simp [k1, k2, k3, k4] <;> omega
theorem cap_sides {z : Int} (hz : 0 ≤ z) : ∀ es : List Arc, capOf (inter es) z = cutP (has z) es
  | [] => rfl
  | a :: r => by
    have h := cap_sides hz r
    simp only [inter, capOf, cutP, h, backA, bit_has _ hz]
    by_cases k1 : has z a.src.toNat = true <;> by_cases k2 : has z a.dst.toNat = true <;> simp [k1, k2]
structure Lam (n : Nat) (es : List Arc) (L : Nat → Nat → Int) : Prop where
  le : ∀ i j p, i < n → j < n → p i = true → p j = false → L i j ≤ cutP p es
  ex : ∀ i j, i < n → j < n → i ≠ j → ∃ p : Nat → Bool, p i = true ∧ p j = false ∧ cutP p es = L i j
theorem has_maskOf (p : Nat → Bool) {n v : Nat} (hv : v < n) : has ((maskOf p n : Nat) : Int) v = p v := by
  have h1 := maskOf_bit p n v hv
  have h2 := bit_nat (maskOf p n) v
  rw [h1] at h2
  rw [bit_has _ (by omega)] at h2
  simp only [Int.toNat_natCast] at h2
  by_cases h3 : has ((maskOf p n : Nat) : Int) v = true <;> by_cases h4 : p v = true <;> simp [h3, h4] at h2 ⊢
def lamOf (n : Int) (es : List Arc) (i j : Nat) : Int := (parted n (i : Int) (j : Int) (inter es)).1
theorem nok_inter {n : Int} {es : List Arc} (h : pairErr n es = 0) {i j : Nat} (hi : i < n.toNat) (hj : j < n.toNat) (hne : i ≠ j) : NOk n (i : Int) (j : Int) (inter es) := by
  obtain ⟨h1, h2⟩ := pairErr_ok h
  exact ⟨h1.inter h2, by omega, by omega, by omega, by omega, by omega⟩
theorem parts_has {n s t z : Int} (h : Parts n s t z) : 0 ≤ z ∧ has z s.toNat = true ∧ has z t.toNat = false :=
  ⟨h.1, (bit_yes h.1).1 h.2.2.1, (bit_no h.1).1 h.2.2.2⟩
theorem lam_of {n : Int} {es : List Arc} (h : pairErr n es = 0) : Lam n.toNat es (lamOf n es) where
  le i j p hi hj h1 h2 := by
    have hne : i ≠ j := by rintro rfl; rw [h1] at h2; cases h2
    have hok := nok_inter h hi hj hne
    obtain ⟨z, hz⟩ := MinCut.exists_ hok
    have hlt := maskOf_lt p n.toNat
    have hp : Parts n (i : Int) (j : Int) ((maskOf p n.toNat : Nat) : Int) := ⟨by omega, by omega, (bit_yes (by omega)).2 (by rw [Int.toNat_natCast, has_maskOf p hi]; exact h1), (bit_no (by omega)).2 (by rw [Int.toNat_natCast, has_maskOf p hj]; exact h2)⟩
    have hm := MinCut.min hok.toGOk hz hp
    rw [hz.2, cap_sides (by omega)] at hm
    have hg := (pairErr_ok h).1
    rw [cutP_congr (q := p) (fun a ha => by
      obtain ⟨q1, q2, q3, q4, _⟩ := hg.arc a ha
      exact ⟨has_maskOf p (by omega), has_maskOf p (by omega)⟩)] at hm
    exact hm
  ex i j hi hj hne := by
    have hok := nok_inter h hi hj hne
    obtain ⟨z, hz⟩ := MinCut.exists_ hok
    obtain ⟨q1, q2, q3⟩ := parts_has hz.1
    exact ⟨has z, by simpa using q2, by simpa using q3, by rw [← cap_sides q1]; exact hz.2⟩
theorem Lam.sym {n : Nat} {es : List Arc} {L : Nat → Nat → Int} (h : Lam n es L) {i j : Nat} (hi : i < n) (hj : j < n) (hne : i ≠ j) : L i j = L j i := by
  obtain ⟨p, p1, p2, p3⟩ := h.ex i j hi hj hne
  obtain ⟨q, q1, q2, q3⟩ := h.ex j i hj hi (Ne.symm hne)
  have a := h.le j i (fun v => !p v) hj hi (by simp [p2]) (by simp [p1])
  have b := h.le i j (fun v => !q v) hi hj (by simp [q2]) (by simp [q1])
  rw [cutP_not] at a b
  omega
theorem Lam.tri {n : Nat} {es : List Arc} {L : Nat → Nat → Int} (h : Lam n es L) {i k j : Nat} (hi : i < n) (hk : k < n) (hj : j < n) (h2 : i ≠ j) : min (L i k) (L k j) ≤ L i j := by
  obtain ⟨p, p1, p2, p3⟩ := h.ex i j hi hj h2
  cases hpk : p k
  · have := h.le i k p hi hk p1 hpk; omega
  · have := h.le k j p hk hj hpk p2; omega
structure PT (n : Nat) (es : List Arc) (L : Nat → Nat → Int) (up w : List Int) (s : Nat) : Prop where
  ul : up.length = n
  wl : w.length = n
  s1 : 1 ≤ s
  u0 : up.getD 0 0 = 0
  w0 : w.getD 0 0 = 0
  below : ∀ k, 1 ≤ k → k < n → 0 ≤ up.getD k 0 ∧ up.getD k 0 < k ∧ up.getD k 0 < s
  sep : ∀ i j, i < s → j < s → i ≠ j → ∃ p : Nat → Bool, p i = true ∧ p j = false ∧ cutP p es = L i j ∧ ∀ k, s ≤ k → k < n → p k = p (up.getD k 0).toNat
  wt : ∀ k, 1 ≤ k → k < s → w.getD k 0 = L k (up.getD k 0).toNat
  path : ∀ k j, 1 ≤ k → k < s → j < k → j ≠ (up.getD k 0).toNat → L k j = min (w.getD k 0) (L (up.getD k 0).toNat j)
theorem PT.start {n : Nat} {es : List Arc} {L : Nat → Nat → Int} : PT n es L (List.replicate n 0) (List.replicate n 0) 1 where
  ul := by simp
  wl := by simp
  s1 := by omega
  u0 := by rw [getD_zeros]
  w0 := by rw [getD_zeros]
  below k h1 h2 := by rw [getD_zeros]; omega
  sep i j hi hj hne := by omega
  wt k h1 h2 := by omega
  path k j h1 h2 := by omega
theorem PT.uncross {n : Nat} {es : List Arc} {L : Nat → Nat → Int} {up w : List Int} {s : Nat} (h : PT n es L up w s) (hL : Lam n es L) (hpos : ∀ a ∈ es, 0 ≤ a.cap) (hs : s < n) {X : Nat → Bool}
    (hX1 : X s = true) (hX2 : X (up.getD s 0).toNat = false) (hX3 : cutP X es = L s (up.getD s 0).toNat) :
    ∀ m, m ≤ s → ∃ Y : Nat → Bool, Y s = true ∧ Y (up.getD s 0).toNat = false ∧ cutP Y es = L s (up.getD s 0).toNat ∧ (∀ k, s ≤ k → k < n → up.getD k 0 = up.getD s 0 → Y k = X k) ∧
      ∀ k, s ≤ k → k < n → up.getD k 0 < m → up.getD k 0 ≠ up.getD s 0 → Y k = Y (up.getD k 0).toNat := by
  obtain ⟨b1, b2, b3⟩ := h.below s h.s1 hs
  intro m
  induction m with
  | zero => exact fun _ => ⟨X, hX1, hX2, hX3, fun _ _ _ _ => rfl, fun k k1 k2 k3 => by have := h.s1; have := h.below k (by omega) k2; omega⟩
  | succ m ih =>
    intro hm
    obtain ⟨Y, y1, y2, y3, y4, y5⟩ := ih (by omega)
    by_cases hmt : m = (up.getD s 0).toNat
    · exact ⟨Y, y1, y2, y3, y4, fun k k1 k2 k3 k4 => y5 k k1 k2 (by omega) k4⟩
    · obtain ⟨Z, z1, z2, z3, z4⟩ := h.sep m (up.getD s 0).toNat (by omega) (by omega) hmt
      have zs : Z s = false := by rw [z4 s (by omega) hs]; exact z2
      have zt : ∀ k, s ≤ k → k < n → up.getD k 0 = up.getD s 0 → Z k = false := fun k k1 k2 k3 => by rw [z4 k k1 k2, k3]; exact z2
      cases hYm : Y m
      · have c1 := cutP_diff Y Z hpos
        have c2 := hL.le m (up.getD s 0).toNat (fun v => Z v && !Y v) (by omega) (by omega) (by simp only [z1, hYm]; rfl) (by simp only [z2]; rfl)
        have c3 := hL.le s (up.getD s 0).toNat (fun v => Y v && !Z v) hs (by omega) (by simp only [y1, zs]; rfl) (by simp only [y2]; rfl)
        refine ⟨fun v => Y v && !Z v, by simp only [y1, zs]; rfl, by simp only [y2]; rfl, by omega, fun k k1 k2 k3 => ?_, fun k k1 k2 k3 k4 => ?_⟩
        · show (Y k && !Z k) = X k
          rw [zt k k1 k2 k3, y4 k k1 k2 k3]; cases X k <;> rfl
        · show (Y k && !Z k) = (Y (up.getD k 0).toNat && !Z (up.getD k 0).toNat)
          rw [z4 k k1 k2]
          have := h.s1
          have := h.below k (by omega) k2
          by_cases hk : up.getD k 0 = m
          · rw [show (up.getD k 0).toNat = m by omega, z1, hYm]; cases Y k <;> rfl
          · rw [y5 k k1 k2 (by omega) k4]
      · have c1 := cutP_sub Y Z hpos
        have c2 := hL.le m (up.getD s 0).toNat (fun v => Y v && Z v) (by omega) (by omega) (by simp only [z1, hYm]; rfl) (by simp only [y2, z2]; rfl)
        have c3 := hL.le s (up.getD s 0).toNat (fun v => Y v || Z v) hs (by omega) (by simp only [y1]; rfl) (by simp only [y2, z2]; rfl)
        refine ⟨fun v => Y v || Z v, by simp only [y1]; rfl, by simp only [y2, z2]; rfl, by omega, fun k k1 k2 k3 => ?_, fun k k1 k2 k3 k4 => ?_⟩
        · show (Y k || Z k) = X k
          rw [zt k k1 k2 k3, y4 k k1 k2 k3]; cases X k <;> rfl
        · show (Y k || Z k) = (Y (up.getD k 0).toNat || Z (up.getD k 0).toNat)
          rw [z4 k k1 k2]
          have := h.s1
          have := h.below k (by omega) k2
          by_cases hk : up.getD k 0 = m
          · rw [show (up.getD k 0).toNat = m by omega, z1]; cases Y k <;> cases Y m <;> rfl
          · rw [y5 k k1 k2 (by omega) k4]
theorem PT.step {n : Nat} {es : List Arc} {L : Nat → Nat → Int} {up w up' : List Int} {s : Nat} (h : PT n es L up w s) (hL : Lam n es L) (hpos : ∀ a ∈ es, 0 ≤ a.cap) (hs : s < n) {X : Nat → Bool}
    (hX1 : X s = true) (hX2 : X (up.getD s 0).toNat = false) (hX3 : cutP X es = L s (up.getD s 0).toNat)
    (hul : up'.length = n) (hup : ∀ k, k < n → up'.getD k 0 = if s < k ∧ X k = true ∧ up.getD k 0 = up.getD s 0 then (s : Int) else up.getD k 0) :
    PT n es L up' (w.set s (L s (up.getD s 0).toNat)) (s + 1) := by
  obtain ⟨b1, b2, b3⟩ := h.below s h.s1 hs
  have hs1 := h.s1
  obtain ⟨Y, y1, y2, y3, y4, y5⟩ := h.uncross hL hpos hs hX1 hX2 hX3 s (Nat.le_refl _)
  have hlow : ∀ k, k ≤ s → up'.getD k 0 = up.getD k 0 := fun k hk => by rw [hup k (by omega), if_neg (by omega)]
  have htn : (up.getD s 0).toNat < n := by omega
  have hold : ∀ p : Nat → Bool, (∀ k, s ≤ k → k < n → p k = p (up.getD k 0).toNat) → ∀ k, s + 1 ≤ k → k < n → p k = p (up'.getD k 0).toNat := fun p hp k k1 k2 => by
    rw [hup k k2]
    split
    · rename_i hc
      rw [hp k (by omega) k2, hc.2.2, Int.toNat_natCast, hp s (by omega) hs]
    · exact hp k (by omega) k2
  have hY : ∀ k, s + 1 ≤ k → k < n → Y k = Y (up'.getD k 0).toNat := fun k k1 k2 => by
    have hb := h.below k (by omega) k2
    rw [hup k k2]
    by_cases ht : up.getD k 0 = up.getD s 0
    · rw [y4 k (by omega) k2 ht]
      cases hXk : X k
      · rw [if_neg (fun q => by cases q.2.1), ht, y2]
      · rw [if_pos ⟨by omega, rfl, ht⟩, Int.toNat_natCast, y1]
    · rw [if_neg (fun hc => ht hc.2.2)]
      exact y5 k (by omega) k2 hb.2.2 ht
  have hmid : ∀ j, j < s → j ≠ (up.getD s 0).toNat → L s j = min (L s (up.getD s 0).toNat) (L (up.getD s 0).toNat j) ∧
      ∃ p : Nat → Bool, p s = true ∧ p j = false ∧ cutP p es = L s j ∧ ∀ k, s + 1 ≤ k → k < n → p k = p (up'.getD k 0).toNat := fun j hj hne => by
    obtain ⟨Z, z1, z2, z3, z4⟩ := h.sep (up.getD s 0).toNat j (by omega) hj (Ne.symm hne)
    have zs : Z s = true := by rw [z4 s (by omega) hs]; exact z1
    have e1 := hL.le s j Z hs (by omega) zs z2
    have e2 := hL.tri hs htn (show j < n by omega) (show s ≠ j by omega)
    cases hYj : Y j
    · have e3 := hL.le s j Y hs (by omega) y1 hYj
      refine ⟨by omega, ?_⟩
      by_cases hle : L s (up.getD s 0).toNat ≤ L (up.getD s 0).toNat j
      · exact ⟨Y, y1, hYj, by omega, hY⟩
      · exact ⟨Z, zs, z2, by omega, hold Z z4⟩
    · have e3 := hL.le j (up.getD s 0).toNat Y (by omega) htn hYj y2
      have e4 := hL.sym (show j < n by omega) htn hne
      exact ⟨by omega, Z, zs, z2, by omega, hold Z z4⟩
  refine ⟨hul, by rw [List.length_set]; exact h.wl, by omega, by rw [hlow 0 (by omega)]; exact h.u0, by rw [getD_set_ne _ _ _ _ _ (by omega)]; exact h.w0, fun k k1 k2 => ?_, fun i j hi hj hne => ?_, fun k k1 k2 => ?_, fun k j k1 k2 k3 k4 => ?_⟩
  · have := h.below k k1 k2
    rw [hup k k2]
    split <;> omega
  · rcases Nat.lt_succ_iff_lt_or_eq.1 hi with hi | hi
    · rcases Nat.lt_succ_iff_lt_or_eq.1 hj with hj | hj
      · obtain ⟨p, p1, p2, p3, p4⟩ := h.sep i j hi hj hne
        exact ⟨p, p1, p2, p3, hold p p4⟩
      · subst hj
        have hsy := hL.sym hs (show i < n by omega) (Ne.symm hne)
        by_cases hit : i = (up.getD j 0).toNat
        · refine ⟨fun v => !Y v, by show (!Y i) = true; rw [hit, y2]; rfl, by simp only [y1]; rfl, by rw [cutP_not, ← hsy, hit]; exact y3, fun k k1 k2 => by show (!Y k) = !Y _; rw [hY k k1 k2]⟩
        · obtain ⟨_, p, p1, p2, p3, p4⟩ := hmid i hi hit
          exact ⟨fun v => !p v, by simp only [p2]; rfl, by simp only [p1]; rfl, by rw [cutP_not, ← hsy]; exact p3, fun k k1 k2 => by show (!p k) = !p _; rw [p4 k k1 k2]⟩
    · subst hi
      by_cases hjt : j = (up.getD i 0).toNat
      · exact ⟨Y, y1, by rw [hjt]; exact y2, by rw [hjt]; exact y3, hY⟩
      · obtain ⟨_, p⟩ := hmid j (by omega) hjt
        exact p
  · rw [hlow k (by omega)]
    rcases Nat.lt_succ_iff_lt_or_eq.1 k2 with q | q
    · rw [getD_set_ne _ _ _ _ _ (by omega)]; exact h.wt k k1 q
    · subst q; rw [getD_set_self _ _ _ _ (by rw [h.wl]; exact hs)]
  · rw [hlow k (by omega)] at k4 ⊢
    rcases Nat.lt_succ_iff_lt_or_eq.1 k2 with q | q
    · rw [getD_set_ne _ _ _ _ _ (by omega)]; exact h.path k j k1 q k3 k4
    · subst q; rw [getD_set_self _ _ _ _ (by rw [h.wl]; exact hs)]; exact (hmid j k3 k4).1
theorem bit_at {z : Int} {k : Nat} (h : 0 ≤ z) : iand (z / 2 ^ k) 1 = 1 ↔ has z k = true := by
  have := bit_yes (v := (k : Int)) h
  simpa [bit] using this
theorem shr_at {z : Int} (k : Nat) (h0 : 0 ≤ z) (h1 : z ≤ 65535) : 0 ≤ z / 2 ^ k ∧ z / 2 ^ k ≤ 65535 := by
  have := shr_in (k : Int) h0 h1
  simpa using this
def UpTo (n s k : Nat) (Z : Int) (up u2 : List Int) : Prop := u2.length = n ∧ ∀ j, j < n → u2.getD j 0 = if s < j ∧ j < k ∧ has Z j = true ∧ up.getD j 0 = up.getD s 0 then (s : Int) else up.getD j 0
theorem UpTo.start {n s : Nat} {Z : Int} {up : List Int} (h : up.length = n) : UpTo n s (s + 1) Z up up := ⟨h, fun j _ => by rw [if_neg (by omega)]⟩
theorem UpTo.same {n s k : Nat} {Z : Int} {up u2 : List Int} (h : UpTo n s k Z up u2) (hs : s + 1 ≤ k) (hk : k < n) : u2.getD k 0 = up.getD k 0 ∧ u2.getD s 0 = up.getD s 0 :=
  ⟨by rw [h.2 k hk, if_neg (by omega)], by rw [h.2 s (by omega), if_neg (by omega)]⟩
theorem UpTo.yes {n s k : Nat} {Z : Int} {up u2 : List Int} (h : UpTo n s k Z up u2) (hs : s + 1 ≤ k) (hk : k < n) (c1 : has Z k = true) (c2 : u2.getD k 0 = u2.getD s 0) : UpTo n s (k + 1) Z up (u2.set k (s : Int)) := by
  obtain ⟨e1, e2⟩ := h.same hs hk
  refine ⟨by rw [List.length_set]; exact h.1, fun j hj => ?_⟩
  by_cases e : k = j
  · subst e
    rw [getD_set_self _ _ _ _ (by rw [h.1]; exact hk), if_pos ⟨by omega, by omega, c1, by rw [← e1, ← e2]; exact c2⟩]
  · rw [getD_set_ne _ _ _ _ _ e, h.2 j hj]
    have : (s < j ∧ j < k ∧ has Z j = true ∧ up.getD j 0 = up.getD s 0) ↔ (s < j ∧ j < k + 1 ∧ has Z j = true ∧ up.getD j 0 = up.getD s 0) := by
      constructor
      · rintro ⟨a, b, c⟩; exact ⟨a, by omega, c⟩
      · rintro ⟨a, b, c⟩; exact ⟨a, by omega, c⟩
    simp only [this]
theorem UpTo.no {n s k : Nat} {Z : Int} {up u2 : List Int} (h : UpTo n s k Z up u2) (hs : s + 1 ≤ k) (hk : k < n) (c : ¬ (has Z k = true ∧ u2.getD k 0 = u2.getD s 0)) : UpTo n s (k + 1) Z up u2 := by
  obtain ⟨e1, e2⟩ := h.same hs hk
  refine ⟨h.1, fun j hj => ?_⟩
  rw [h.2 j hj]
  have : (s < j ∧ j < k ∧ has Z j = true ∧ up.getD j 0 = up.getD s 0) ↔ (s < j ∧ j < k + 1 ∧ has Z j = true ∧ up.getD j 0 = up.getD s 0) := by
    constructor
    · rintro ⟨a, b, c⟩; exact ⟨a, by omega, c⟩
    · rintro ⟨a, b, q1, q2⟩
      refine ⟨a, ?_, q1, q2⟩
      rcases Nat.lt_succ_iff_lt_or_eq.1 b with b | rfl
      · exact b
      · exact absurd ⟨q1, by rw [e1, e2]; exact q2⟩ c
  simp only [this]
theorem low_side {n : Int} {es : List Arc} {up w : List Int} {s : Nat} (h : pairErr n es = 0) (hT : PT n.toNat es (lamOf n es) up w s) (hs : s < n.toNat) :
    NOk n (s : Int) (up.getD s 0) (inter es) ∧ 0 ≤ (parted n (s : Int) (up.getD s 0) (inter es)).2.1 ∧ (parted n (s : Int) (up.getD s 0) (inter es)).2.1 ≤ 65535 ∧ has (parted n (s : Int) (up.getD s 0) (inter es)).2.1 s = true ∧
      has (parted n (s : Int) (up.getD s 0) (inter es)).2.1 (up.getD s 0).toNat = false ∧ cutP (has (parted n (s : Int) (up.getD s 0) (inter es)).2.1) es = lamOf n es s (up.getD s 0).toNat ∧ (parted n (s : Int) (up.getD s 0) (inter es)).1 = lamOf n es s (up.getD s 0).toNat := by
  obtain ⟨b1, b2, b3⟩ := hT.below s hT.s1 hs
  have hn := (pairErr_ok h).1.n2
  have hok := nok_inter h hs (show (up.getD s 0).toNat < n.toNat by omega) (by omega)
  rw [Int.toNat_of_nonneg b1] at hok
  have hlow := (MinCut.low hok).1
  obtain ⟨q1, q2, q3⟩ := parts_has hlow.1
  have hlt := hlow.1.2.1
  have hp := pow_le12 (n := n.toNat) (by omega)
  have hv : (parted n (s : Int) (up.getD s 0) (inter es)).1 = lamOf n es s (up.getD s 0).toNat := by unfold lamOf; rw [Int.toNat_of_nonneg b1]
  exact ⟨hok, q1, by omega, by simpa using q2, q3, by rw [← cap_sides q1, ← hv]; exact hlow.2, hv⟩
theorem PT.up {n : Int} {es : List Arc} {up w u2 : List Int} {s k : Nat} (h : pairErr n es = 0) (hT : PT n.toNat es (lamOf n es) up w s) (hs : s < n.toNat) (hu : UpTo n.toNat s k (parted n (s : Int) (up.getD s 0) (inter es)).2.1 up u2) (hk : n.toNat ≤ k) :
    PT n.toNat es (lamOf n es) u2 (w.set s (parted n (s : Int) (up.getD s 0) (inter es)).1) (s + 1) := by
  obtain ⟨_, _, _, q1, q2, q3, q4⟩ := low_side h hT hs
  rw [q4]
  refine hT.step (lam_of h) (fun a ha => ((pairErr_ok h).1.arc a ha).2.2.2.2.1) hs q1 q2 q3 hu.1 (fun j hj => ?_)
  rw [hu.2 j hj]
  have : (s < j ∧ j < k ∧ has (parted n (s : Int) (up.getD s 0) (inter es)).2.1 j = true ∧ up.getD j 0 = up.getD s 0) ↔ (s < j ∧ has (parted n (s : Int) (up.getD s 0) (inter es)).2.1 j = true ∧ up.getD j 0 = up.getD s 0) := by
    constructor
    · rintro ⟨a, b, c⟩; exact ⟨a, c⟩
    · rintro ⟨a, c⟩; exact ⟨a, by omega, c⟩
  simp only [this]
def TreeRes (n : Int) (es : List Arc) (up w : List Int) (e : Int) : Prop := (pairErr n es ≠ 0 ∧ e = pairErr n es ∧ up = [] ∧ w = []) ∨ (pairErr n es = 0 ∧ e = 0 ∧ PT n.toNat es (lamOf n es) up w n.toNat)
end Go.Ab
