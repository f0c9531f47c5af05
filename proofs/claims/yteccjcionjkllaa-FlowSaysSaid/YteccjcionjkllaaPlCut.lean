/- Of flows and cuts: the greatest flow is the least cut: the plain laws. -/
import Derived.Test.YteccjcionjkllaaPlFlow3
namespace Go.Ab
/-- What goes out of a side, less what comes in. -/
def sideGone : List Arc → List Int → Int → Int
  | a :: r, x :: q, z => x * (bit z a.src - bit z a.dst) + sideGone r q z
  | _, _, _ => 0
/-- The sum over the nodes from k on, so many. -/
def nodeSum (g : Int → Int) : Nat → Nat → Int
  | _, 0 => 0
  | k, m + 1 => g (k : Int) + nodeSum g (k + 1) m
theorem nodeSum_congr {g h : Int → Int} : ∀ {m k : Nat}, (∀ j : Nat, k ≤ j → j < k + m → g (j : Int) = h (j : Int)) → nodeSum g k m = nodeSum h k m
  | 0, _, _ => rfl
  | m + 1, k, e => by
    unfold nodeSum
    rw [e k (Nat.le_refl _) (by omega), nodeSum_congr (m := m) (k := k + 1) (fun j h1 h2 => e j (by omega) (by omega))]
theorem nodeSum_add (g h : Int → Int) : ∀ (m k : Nat), nodeSum (fun v => g v + h v) k m = nodeSum g k m + nodeSum h k m
  | 0, _ => rfl
  | m + 1, k => by
    unfold nodeSum
    rw [nodeSum_add g h m (k + 1)]; omega
theorem nodeSum_zero {g : Int → Int} {m k : Nat} (h : ∀ j : Nat, k ≤ j → j < k + m → g (j : Int) = 0) : nodeSum g k m = 0 := by
  have : nodeSum g k m = nodeSum (fun _ => 0) k m := nodeSum_congr h
  rw [this]
  clear this h
  induction m generalizing k with
  | zero => rfl
  | succ m ih => unfold nodeSum; rw [ih]; rfl
/-- A sum with one limb. -/
theorem nodeSum_one {g : Int → Int} {v : Int} : ∀ {m k : Nat}, (k : Int) ≤ v → v < (k + m : Nat) → (∀ j : Nat, k ≤ j → j < k + m → (j : Int) ≠ v → g (j : Int) = 0) → nodeSum g k m = g v
  | 0, k, h1, h2, _ => by omega
  | m + 1, k, h1, h2, h => by
    unfold nodeSum
    by_cases hk : (k : Int) = v
    · rw [nodeSum_zero (fun j hj hj2 => h j (by omega) (by omega) (by omega)), hk]; omega
    · rw [nodeSum_one (m := m) (k := k + 1) (by omega) (by omega) (fun j hj hj2 hn => h j (by omega) (by omega) hn), h k (Nat.le_refl _) (by omega) hk]; omega
theorem side_nodes {es : List Arc} {f : List Int} {n z : Int} (h12 : n ≤ 12) (h : ∀ a ∈ es, 0 ≤ a.src ∧ a.src < n ∧ 0 ≤ a.dst ∧ a.dst < n) : sideGone es f z = nodeSum (fun v => bit z v * gone es f v) 0 12 := by
  induction es generalizing f with
  | nil => exact (nodeSum_zero (fun j _ _ => by simp [gone])).symm
  | cons a r ih =>
    cases f with
    | nil => exact (nodeSum_zero (fun j _ _ => by simp [gone])).symm
    | cons x q =>
      have ha := h a List.mem_cons_self
      have e1 : nodeSum (fun v => bit z v * gone (a :: r) (x :: q) v) 0 12 = nodeSum (fun v => (bit z v * (if a.src = v then x else 0) + bit z v * (- (if a.dst = v then x else 0))) + bit z v * gone r q v) 0 12 :=
        nodeSum_congr fun j _ _ => by
          simp only [gone]
          rw [← Int.mul_add, ← Int.mul_add]
          congr 1
      rw [e1, nodeSum_add, nodeSum_add, ← ih (fun b hb => h b (List.mem_cons_of_mem _ hb))]
      rw [nodeSum_one (v := a.src) (m := 12) (k := 0) (by omega) (by omega) (fun j _ _ hj => by rw [if_neg (fun e => hj e.symm), Int.mul_zero])]
      rw [nodeSum_one (v := a.dst) (m := 12) (k := 0) (by omega) (by omega) (fun j _ _ hj => by rw [if_neg (fun e => hj e.symm)]; simp)]
      rw [if_pos rfl, if_pos rfl]
      simp only [sideGone]
      rw [Int.mul_sub, Int.mul_comm x, Int.mul_comm x, Int.mul_neg]
      omega
/-- A side that parts the source from the sink. -/
def Parts (n s t z : Int) : Prop := 0 ≤ z ∧ z < ((2 ^ n.toNat : Nat) : Int) ∧ bit z s = 1 ∧ bit z t = 0
theorem bit_out {n z v : Int} (h0 : 0 ≤ z) (h1 : z < ((2 ^ n.toNat : Nat) : Int)) (hv : n ≤ v) : bit z v = 0 := by
  unfold bit iand
  have h2 : z / 2 ^ v.toNat = 0 := by
    apply Int.ediv_eq_zero_of_lt h0
    have h3 : (2 ^ n.toNat : Nat) ≤ 2 ^ v.toNat := Nat.pow_le_pow_right (by decide) (by omega)
    have h4 : ((2 ^ v.toNat : Nat) : Int) = (2 : Int) ^ v.toNat := by norm_cast
    rw [← h4]
    omega
  rw [h2]
  simp
theorem side_value {n s t z : Int} {es : List Arc} {f : List Int} (h : FlOk n s t es f) (hz : Parts n s t z) : sideGone es f z = gone es f s := by
  have hok := h.net
  have h4 := hok.s0
  have h5 := hok.s1
  have h2 := hok.n2
  rw [side_nodes hok.n2 (fun a ha => ⟨(hok.arc a ha).1, (hok.arc a ha).2.1, (hok.arc a ha).2.2.1, (hok.arc a ha).2.2.2.1⟩)]
  rw [nodeSum_one (v := s) (m := 12) (k := 0) (by omega) (by omega) (fun j _ _ hj => by
    by_cases hjt : (j : Int) = t
    · rw [hjt, hz.2.2.2, Int.zero_mul]
    · rw [h.kept j hj hjt, Int.mul_zero])]
  rw [hz.2.2.1, Int.one_mul]
theorem side_le {es : List Arc} {f : List Int} {z : Int} (hz : 0 ≤ z) (h : FIn es f) : sideGone es f z ≤ capOf es z := by
  induction es generalizing f with
  | nil => simp [sideGone, capOf]
  | cons a r ih =>
    cases f with
    | nil => have := h.len; simp at this
    | cons x q =>
      have h0 := h.at_ 0 (by simp)
      simp only [List.getD_cons_zero] at h0
      have hr := ih (f := q) ⟨by have := h.len; simpa using this, fun k hk => by have := h.at_ (k + 1) (by simpa using hk); simpa using this⟩
      simp only [sideGone, capOf]
      have : x * (bit z a.src - bit z a.dst) ≤ a.cap * bit z a.src * (1 - bit z a.dst) := by
        rcases bit_01 a.src hz with h1 | h1 <;> rcases bit_01 a.dst hz with h2 | h2 <;> rw [h1, h2] <;> simp <;> omega
      omega
/-- No arc takes more out of the side, none brings anything in. -/
def Shut (es : List Arc) (f : List Int) (z : Int) : Prop := ∀ k, k < es.length →
  (bit z (es.getD k default).src = 1 → bit z (es.getD k default).dst = 0 → f.getD k 0 = (es.getD k default).cap) ∧ (bit z (es.getD k default).src = 0 → bit z (es.getD k default).dst = 1 → f.getD k 0 = 0)
theorem side_eq {es : List Arc} {f : List Int} {z : Int} (hz : 0 ≤ z) (hl : f.length = es.length) (h : Shut es f z) : sideGone es f z = capOf es z := by
  induction es generalizing f with
  | nil => simp [sideGone, capOf]
  | cons a r ih =>
    cases f with
    | nil => simp at hl
    | cons x q =>
      have h0 := h 0 (by simp)
      simp only [List.getD_cons_zero] at h0
      have hr := ih (f := q) (by simpa using hl) (fun k hk => by have := h (k + 1) (by simpa using hk); simpa using this)
      simp only [sideGone, capOf]
      have : x * (bit z a.src - bit z a.dst) = a.cap * bit z a.src * (1 - bit z a.dst) := by
        rcases bit_01 a.src hz with h1 | h1 <;> rcases bit_01 a.dst hz with h2 | h2
        · rw [h1, h2]; simp
        · rw [h0.2 h1 h2]; simp [h1, h2]
        · rw [h0.1 h1 h2, h1, h2]; simp
        · rw [h1, h2]; simp
      omega

/-! ### The least cut -/
theorem pstep_skip {s t z : Int} {es : List Arc} {x : Int × Int × Int} (h : ¬ (bit z s = 1 ∧ bit z t = 0)) (hz : 0 ≤ z) : pstep s t es x z = x := by
  unfold pstep
  rw [if_pos]
  rcases bit_01 s hz with h1 | h1 <;> rcases bit_01 t hz with h2 | h2
  · exact .inl h1
  · exact .inl h1
  · exact absurd ⟨h1, h2⟩ h
  · exact .inr h2
/-- The least cut so far: it is one, and no other is less. -/
theorem parted_fold {n s t : Int} {es : List Arc} (hg : GOk n es 0) : ∀ i : Nat,
    ((List.range i).foldl (fun x (k : Nat) => pstep s t es x (k : Int)) (-1, 0, 0)).1 = -1 ∧ (∀ k : Nat, k < i → ¬ (bit (k : Int) s = 1 ∧ bit (k : Int) t = 0)) ∨
    (∃ k : Nat, k < i ∧ bit (k : Int) s = 1 ∧ bit (k : Int) t = 0 ∧ ((List.range i).foldl (fun x (k : Nat) => pstep s t es x (k : Int)) (-1, 0, 0)).1 = capOf es (k : Int)) ∧
    (∀ k : Nat, k < i → bit (k : Int) s = 1 → bit (k : Int) t = 0 → ((List.range i).foldl (fun x (k : Nat) => pstep s t es x (k : Int)) (-1, 0, 0)).1 ≤ capOf es (k : Int)) := by
  intro i
  induction i with
  | zero => exact .inl ⟨rfl, fun k hk => by omega⟩
  | succ i ih =>
    rw [List.range_succ, List.foldl_append]
    simp only [List.foldl_cons, List.foldl_nil]
    generalize hx : (List.range i).foldl (fun x (k : Nat) => pstep s t es x (k : Int)) (-1, 0, 0) = x at ih
    have hi0 : (0 : Int) ≤ (i : Int) := by omega
    by_cases hv : bit (i : Int) s = 1 ∧ bit (i : Int) t = 0
    · have hc := capOf_in hg hi0
      have hst : pstep s t es x (i : Int) = if x.1 < 0 ∨ capOf es (i : Int) < x.1 then (capOf es (i : Int), (i : Int), (i : Int)) else if capOf es (i : Int) = x.1 then (x.1, iand x.2.1 (i : Int), ior x.2.2 (i : Int)) else x := by
        rw [pstep, if_neg (by omega)]
      rw [hst]
      rcases ih with ⟨h1, h2⟩ | ⟨⟨k, k1, k2, k3, k4⟩, h2⟩
      · rw [if_pos (by omega)]
        refine .inr ⟨⟨i, by omega, hv.1, hv.2, rfl⟩, fun k hk hs ht => ?_⟩
        rcases Nat.lt_succ_iff_lt_or_eq.1 hk with h | h
        · exact absurd ⟨hs, ht⟩ (h2 k h)
        · subst h; exact Int.le_refl _
      · have hk0 := capOf_in hg (z := (k : Int)) (by omega)
        by_cases hlt : capOf es (i : Int) < x.1
        · rw [if_pos (.inr hlt)]
          refine .inr ⟨⟨i, by omega, hv.1, hv.2, rfl⟩, fun k' hk' hs ht => ?_⟩
          rcases Nat.lt_succ_iff_lt_or_eq.1 hk' with h | h
          · have := h2 k' h hs ht; show capOf es (i : Int) ≤ _; omega
          · subst h; exact Int.le_refl _
        · rw [if_neg (by omega)]
          have hfst : (if capOf es (i : Int) = x.1 then (x.1, iand x.2.1 (i : Int), ior x.2.2 (i : Int)) else x).1 = x.1 := by split <;> rfl
          rw [hfst]
          refine .inr ⟨⟨k, by omega, k2, k3, k4⟩, fun k' hk' hs ht => ?_⟩
          rcases Nat.lt_succ_iff_lt_or_eq.1 hk' with h | h
          · exact h2 k' h hs ht
          · subst h; omega
    · rw [pstep_skip hv hi0]
      rcases ih with ⟨h1, h2⟩ | ⟨⟨k, k1, k2, k3, k4⟩, h2⟩
      · refine .inl ⟨h1, fun k hk => ?_⟩
        rcases Nat.lt_succ_iff_lt_or_eq.1 hk with h | h
        · exact h2 k h
        · subst h; exact hv
      · refine .inr ⟨⟨k, by omega, k2, k3, k4⟩, fun k' hk' hs ht => ?_⟩
        rcases Nat.lt_succ_iff_lt_or_eq.1 hk' with h | h
        · exact h2 k' h hs ht
        · subst h; exact absurd ⟨hs, ht⟩ hv
/-- A flow that a shut side bounds is as great as can be. -/
theorem greatest {n s t z : Int} {es : List Arc} {f : List Int} (h : FlOk n s t es f) (hz : Parts n s t z) (hs : Shut es f z) : gone es f s = (parted n s t es).1 := by
  have hg := h.net.toGOk
  have e1 : gone es f s = capOf es z := by rw [← side_value h hz, side_eq hz.1 h.fin.len hs]
  obtain ⟨z0, z1, z2, z3⟩ := hz
  have hzn : ((z.toNat : Nat) : Int) = z := by omega
  rcases parted_fold (s := s) (t := t) hg (2 ^ n.toNat) with ⟨_, h2⟩ | ⟨⟨k, k1, k2, k3, k4⟩, h2⟩
  · exact absurd (by rw [hzn]; exact ⟨z2, z3⟩) (h2 z.toNat (by omega))
  · have h3 := h2 z.toNat (by omega) (by rw [hzn]; exact z2) (by rw [hzn]; exact z3)
    rw [hzn] at h3
    have h4 : gone es f s ≤ capOf es (k : Int) := by
      rw [← side_value h ⟨by omega, by omega, k2, k3⟩]
      exact side_le (by omega) h.fin
    unfold parted
    rw [← k4] at h4
    omega
end Go.Ab
