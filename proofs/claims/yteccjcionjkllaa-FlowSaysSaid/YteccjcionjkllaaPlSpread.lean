/- Of what is come to over what is left: the least and the greatest side: the plain laws. -/
import Derived.Test.YteccjcionjkllaaPlBits
import Derived.Test.YteccjcionjkllaaPlAug
namespace Go.Ab
def xOf (tr : Bool) (a : Arc) : Int := cond tr a.dst a.src
def yOf (tr : Bool) (a : Arc) : Int := cond tr a.src a.dst
/-- Nothing new is come to by that arc. -/
def CloAt (es : List Arc) (f : List Int) (tr : Bool) (w : Int) (k : Nat) : Prop :=
  (f.getD k 0 < (es.getD k default).cap → has w (xOf tr (es.getD k default)).toNat = true → has w (yOf tr (es.getD k default)).toNat = true) ∧
  (0 < f.getD k 0 → has w (yOf tr (es.getD k default)).toNat = true → has w (xOf tr (es.getD k default)).toNat = true)
def Clo (es : List Arc) (f : List Int) (tr : Bool) (w : Int) : Prop := ∀ k, k < es.length → CloAt es f tr w k
structure Sp (es : List Arc) (f : List Int) (tr : Bool) (n a z : Int) : Prop where
  z0 : 0 ≤ z
  lt : ∀ v, n.toNat ≤ v → has z v = false
  at_ : has z a.toNat = true
  min : ∀ w, Clo es f tr w → has w a.toNat = true → sub z w
theorem Sp.start {es : List Arc} {f : List Int} {tr : Bool} {n a : Int} (h0 : 0 ≤ a) (h1 : a < n) : Sp es f tr n a (1 * 2 ^ a.toNat) := by
  refine ⟨by rw [Int.one_mul, pow_nat]; exact Int.natCast_nonneg _, fun v hv => ?_, ?_, fun w _ hw v hv => ?_⟩
  · rw [has_pow]; simp; omega
  · rw [has_pow]; simp
  · rw [has_pow] at hv
    have : a.toNat = v := by simpa using hv
    rw [← this]; exact hw
theorem Sp.add {es : List Arc} {f : List Int} {tr : Bool} {n a z : Int} (h : Sp es f tr n a z) {u : Nat} (hu : u < n.toNat) (hm : ∀ w, Clo es f tr w → sub z w → has w u = true) : Sp es f tr n a (ior z (1 * 2 ^ u)) := by
  refine ⟨ior0 _ _, fun v hv => ?_, ?_, fun w hw ha v hv => ?_⟩
  · rw [has_ior, h.lt v hv, has_pow]; simp; omega
  · rw [has_ior, h.at_]; rfl
  · rw [has_ior, has_pow] at hv
    cases e : has z v
    · rw [e] at hv
      have : u = v := by simpa using hv
      rw [← this]; exact hm w hw (h.min w hw ha)
    · exact h.min w hw ha v e
theorem sub_ior (a b : Int) : sub a (ior a b) := fun v hv => by rw [has_ior, hv]; rfl
theorem sub_refl (a : Int) : sub a a := fun _ h => h
theorem sub_trans {a b c : Int} (h1 : sub a b) (h2 : sub b c) : sub a c := fun v h => h2 v (h1 v h)
theorem ior_same {z : Int} {u : Nat} (h0 : 0 ≤ z) (h : has z u = true) : ior z (1 * 2 ^ u) = z :=
  side_ext (ior0 _ _) h0 fun v => by
    rw [has_ior, has_pow]
    by_cases e : u = v
    · subst e; rw [h]; rfl
    · simp [e]
theorem ior_eq {z : Int} {u : Nat} (h : ior z (1 * 2 ^ u) = z) : has z u = true := by
  rw [← h, has_ior, has_pow]; simp
/-- How far a pass over the arcs has come: where it changed nothing, nothing new is come to by the arcs so far. -/
structure Pass (es : List Arc) (f : List Int) (tr : Bool) (z0 z : Int) (k : Nat) : Prop where
  sub_ : sub z0 z
  clo : z = z0 → ∀ j, j < k → CloAt es f tr z j
theorem Pass.step {es : List Arc} {f : List Int} {tr : Bool} {n a z0 z : Int} {k : Nat} (h : Pass es f tr z0 z k) (hs : Sp es f tr n a z) (hz0 : 0 ≤ z0) {z1 z2 : Int}
    (h1 : z1 = if f.getD k 0 < (es.getD k default).cap ∧ has z (xOf tr (es.getD k default)).toNat = true then ior z (1 * 2 ^ (yOf tr (es.getD k default)).toNat) else z)
    (h2 : z2 = if 0 < f.getD k 0 ∧ has z1 (yOf tr (es.getD k default)).toNat = true then ior z1 (1 * 2 ^ (xOf tr (es.getD k default)).toNat) else z1)
    (hk : k < es.length) (hx : (xOf tr (es.getD k default)).toNat < n.toNat) (hy : (yOf tr (es.getD k default)).toNat < n.toNat) : Sp es f tr n a z2 ∧ Pass es f tr z0 z2 (k + 1) := by
  have s1 : Sp es f tr n a z1 := by
    rw [h1]; split
    · rename_i c; exact hs.add hy (fun w hw hz => (hw k hk).1 c.1 (hz _ c.2))
    · exact hs
  have s2 : Sp es f tr n a z2 := by
    rw [h2]; split
    · rename_i c; exact s1.add hx (fun w hw hz => (hw k hk).2 c.1 (hz _ c.2))
    · exact s1
  have b1 : sub z z1 := by rw [h1]; split; exact sub_ior _ _; exact sub_refl _
  have b2 : sub z1 z2 := by rw [h2]; split; exact sub_ior _ _; exact sub_refl _
  refine ⟨s2, sub_trans h.sub_ (sub_trans b1 b2), fun e j hj => ?_⟩
  have e0 : z = z0 := sub_antisymm hs.z0 hz0 (fun v hv => by rw [← e]; exact b2 v (b1 v hv)) h.sub_
  have e1 : z1 = z0 := sub_antisymm s1.z0 hz0 (fun v hv => by rw [← e]; exact b2 v hv) (sub_trans h.sub_ b1)
  rw [e]
  rcases Nat.lt_succ_iff_lt_or_eq.1 hj with hj | hj
  · have := h.clo e0 j hj
    rwa [e0] at this
  · subst hj
    refine ⟨fun c1 c2 => ?_, fun c1 c2 => ?_⟩
    · rw [e0] at h1
      rw [if_pos ⟨c1, c2⟩] at h1
      exact ior_eq (h1.symm.trans e1)
    · rw [e1] at h2
      rw [if_pos ⟨c1, c2⟩] at h2
      exact ior_eq (h2.symm.trans e)
theorem Pass.start {es : List Arc} {f : List Int} {tr : Bool} {z : Int} : Pass es f tr z z 0 := ⟨sub_refl _, fun _ j hj => by omega⟩
/-- After a whole pass: closed, or more. -/
theorem Pass.end_ {es : List Arc} {f : List Int} {tr : Bool} {n a z0 z : Int} {k i : Nat} (h : Pass es f tr z0 z k) (hk : es.length ≤ k) (h0 : Sp es f tr n a z0) (hs : Sp es f tr n a z) (hp : Clo es f tr z0 ∨ i + 1 ≤ many z0 n.toNat) :
    Clo es f tr z ∨ (i + 1) + 1 ≤ many z n.toNat := by
  by_cases e : z = z0
  · exact .inl fun j hj => h.clo e j (by omega)
  · rcases hp with hp | hp
    · exact absurd (sub_antisymm hs.z0 h0.z0 (hs.min z0 hp h0.at_) h.sub_) e
    · right
      have hex : ∃ v, has z0 v = false ∧ has z v = true := by
        refine Classical.byContradiction fun hn => e ?_
        refine sub_antisymm hs.z0 h0.z0 (fun v hv => ?_) h.sub_
        cases e2 : has z0 v
        · exact absurd ⟨v, e2, hv⟩ hn
        · rfl
      obtain ⟨v, v1, v2⟩ := hex
      have hv : v < n.toNat := by
        refine Classical.byContradiction fun hn => ?_
        rw [hs.lt v (by omega)] at v2; cases v2
      have := many_lt h.sub_ v1 v2 hv
      omega
theorem Sp.many1 {es : List Arc} {f : List Int} {tr : Bool} {n a z : Int} (h : Sp es f tr n a z) (h1 : 0 ≤ a) (h2 : a < n) : 0 + 1 ≤ many z n.toNat := many_pos h.at_ (by omega)
theorem Sp.done {es : List Arc} {f : List Int} {tr : Bool} {n z : Int} {i : Nat} (hp : Clo es f tr z ∨ i + 1 ≤ many z n.toNat) (hi : n.toNat ≤ i) : Clo es f tr z := by
  rcases hp with hp | hp
  · exact hp
  · have := many_le z n.toNat; omega
/-- What 'spread' answers. -/
def SprOk (es : List Arc) (f : List Int) (tr : Bool) (n a z : Int) : Prop := Sp es f tr n a z ∧ Clo es f tr z
theorem Sp.in16 {es : List Arc} {f : List Int} {tr : Bool} {n a z : Int} (h : Sp es f tr n a z) (hn : n ≤ 12) : 0 ≤ z ∧ z ≤ 65535 ∧ z < ((2 ^ n.toNat : Nat) : Int) := by
  have h1 := lt_has h.z0 h.lt
  have h2 := pow_le12 (n := n.toNat) (by omega)
  exact ⟨h.z0, by omega, h1⟩

/-! ### The least and the greatest side -/
theorem side_shut {es : List Arc} {f : List Int} {z : Int} (hz : 0 ≤ z) (h : FIn es f) (he : sideGone es f z = capOf es z) : Shut es f z := by
  induction es generalizing f with
  | nil => intro k hk; simp at hk
  | cons a r ih =>
    cases f with
    | nil => have := h.len; simp at this
    | cons x q =>
      have h0 := h.at_ 0 (by simp)
      simp only [List.getD_cons_zero] at h0
      have hf : FIn r q := ⟨by have := h.len; simpa using this, fun k hk => by have := h.at_ (k + 1) (by simpa using hk); simpa using this⟩
      have hl := side_le hz hf
      simp only [sideGone, capOf] at he
      have h1 : x * (bit z a.src - bit z a.dst) ≤ a.cap * bit z a.src * (1 - bit z a.dst) := by
        rcases bit_01 a.src hz with h1 | h1 <;> rcases bit_01 a.dst hz with h2 | h2 <;> rw [h1, h2] <;> simp <;> omega
      have hr := ih hf (by omega)
      have h2 : x * (bit z a.src - bit z a.dst) = a.cap * bit z a.src * (1 - bit z a.dst) := by omega
      intro k hk
      cases k with
      | zero =>
        simp only [List.getD_cons_zero]
        refine ⟨fun b1 b2 => ?_, fun b1 b2 => ?_⟩
        · rw [b1, b2] at h2; simpa using h2
        · rw [b1, b2] at h2; simp at h2; omega
      | succ k =>
        simp only [List.getD_cons_succ]
        exact hr k (by simpa using hk)
theorem clo_of_shut {es : List Arc} {f : List Int} {z : Int} (hz : 0 ≤ z) (h : Shut es f z) (hf : FIn es f) : Clo es f false z := by
  intro k hk
  have h1 := h k hk
  have h2 := hf.at_ k hk
  unfold CloAt xOf yOf
  simp only [cond_false]
  rw [bit_yes hz, bit_no hz] at h1
  rw [bit_no hz, bit_yes hz] at h1
  refine ⟨fun c1 c2 => ?_, fun c1 c2 => ?_⟩
  · cases e : has z (es.getD k default).dst.toNat
    · have := h1.1 c2 e; omega
    · rfl
  · cases e : has z (es.getD k default).src.toNat
    · have := h1.2 e c2; omega
    · rfl
theorem shut_of_clo {es : List Arc} {f : List Int} {z : Int} (hz : 0 ≤ z) (h : Clo es f false z) (hf : FIn es f) : Shut es f z := by
  intro k hk
  have h1 := h k hk
  have h2 := hf.at_ k hk
  unfold CloAt xOf yOf at h1
  simp only [cond_false] at h1
  rw [bit_yes hz, bit_no hz, bit_no hz, bit_yes hz]
  refine ⟨fun c1 c2 => ?_, fun c1 c2 => ?_⟩
  · have h3 := h1.1
    rw [c1, c2] at h3
    have : ¬ f.getD k 0 < (es.getD k default).cap := fun hlt => by simpa using h3 hlt rfl
    omega
  · have h3 := h1.2
    rw [c1, c2] at h3
    have : ¬ 0 < f.getD k 0 := fun hlt => by simpa using h3 hlt rfl
    omega
/-- Turned round: what is not come to against the arcs is closed along them. -/
theorem clo_compl {es : List Arc} {f : List Int} {z w : Int} {n : Nat} (hw : ∀ v, v < n → has w v = !has z v) (he : ∀ k, k < es.length → (es.getD k default).src.toNat < n ∧ (es.getD k default).dst.toNat < n) {tr : Bool} (h : Clo es f tr z) : Clo es f (!tr) w := by
  intro k hk
  have h1 := h k hk
  obtain ⟨e1, e2⟩ := he k hk
  unfold CloAt xOf yOf at h1 ⊢
  cases tr <;> simp only [cond_false, cond_true, Bool.not_false, Bool.not_true] at h1 ⊢ <;> rw [hw _ e1, hw _ e2] <;>
    cases hs : has z (es.getD k default).src.toNat <;> cases hd : has z (es.getD k default).dst.toNat <;> rw [hs, hd] at h1 <;> simp at h1 ⊢ <;> assumption
theorem parted_sides {n s t : Int} {es : List Arc} (hg : GOk n es 0) : ∀ i : Nat,
    ((List.range i).foldl (fun x (k : Nat) => pstep s t es x (k : Int)) (-1, 0, 0)).1 = -1 ∧ (∀ k : Nat, k < i → ¬ (bit (k : Int) s = 1 ∧ bit (k : Int) t = 0)) ∨
    (0 ≤ ((List.range i).foldl (fun x (k : Nat) => pstep s t es x (k : Int)) (-1, 0, 0)).2.1 ∧ 0 ≤ ((List.range i).foldl (fun x (k : Nat) => pstep s t es x (k : Int)) (-1, 0, 0)).2.2 ∧
    (∀ k : Nat, k < i → bit (k : Int) s = 1 → bit (k : Int) t = 0 → capOf es (k : Int) = ((List.range i).foldl (fun x (k : Nat) => pstep s t es x (k : Int)) (-1, 0, 0)).1 →
      sub ((List.range i).foldl (fun x (k : Nat) => pstep s t es x (k : Int)) (-1, 0, 0)).2.1 (k : Int) ∧ sub (k : Int) ((List.range i).foldl (fun x (k : Nat) => pstep s t es x (k : Int)) (-1, 0, 0)).2.2) ∧
    (∀ v, has ((List.range i).foldl (fun x (k : Nat) => pstep s t es x (k : Int)) (-1, 0, 0)).2.1 v = false → ∃ k : Nat, k < i ∧ bit (k : Int) s = 1 ∧ bit (k : Int) t = 0 ∧ capOf es (k : Int) = ((List.range i).foldl (fun x (k : Nat) => pstep s t es x (k : Int)) (-1, 0, 0)).1 ∧ has (k : Int) v = false) ∧
    (∀ v, has ((List.range i).foldl (fun x (k : Nat) => pstep s t es x (k : Int)) (-1, 0, 0)).2.2 v = true → ∃ k : Nat, k < i ∧ bit (k : Int) s = 1 ∧ bit (k : Int) t = 0 ∧ capOf es (k : Int) = ((List.range i).foldl (fun x (k : Nat) => pstep s t es x (k : Int)) (-1, 0, 0)).1 ∧ has (k : Int) v = true)) := by
  intro i
  induction i with
  | zero => exact .inl ⟨rfl, fun k hk => by omega⟩
  | succ i ih =>
    have hpf := parted_fold (s := s) (t := t) hg i
    rw [List.range_succ, List.foldl_append]
    simp only [List.foldl_cons, List.foldl_nil]
    generalize (List.range i).foldl (fun x (k : Nat) => pstep s t es x (k : Int)) (-1, 0, 0) = x at ih hpf
    have hi0 : (0 : Int) ≤ (i : Int) := by omega
    by_cases hv : bit (i : Int) s = 1 ∧ bit (i : Int) t = 0
    · have hc := capOf_in hg hi0
      have hst : pstep s t es x (i : Int) = if x.1 < 0 ∨ capOf es (i : Int) < x.1 then (capOf es (i : Int), (i : Int), (i : Int)) else if capOf es (i : Int) = x.1 then (x.1, iand x.2.1 (i : Int), ior x.2.2 (i : Int)) else x := by
        rw [pstep, if_neg (by omega)]
      rw [hst]
      by_cases hlt : x.1 < 0 ∨ capOf es (i : Int) < x.1
      · rw [if_pos hlt]
        refine .inr ⟨hi0, hi0, fun k hk hs ht hcap => ?_, fun v hvv => ⟨i, by omega, hv.1, hv.2, rfl, hvv⟩, fun v hvv => ⟨i, by omega, hv.1, hv.2, rfl, hvv⟩⟩
        rcases Nat.lt_succ_iff_lt_or_eq.1 hk with h | h
        · rcases hpf with ⟨_, h2⟩ | ⟨⟨k', k1, k2, k3, k4⟩, h2⟩
          · exact absurd ⟨hs, ht⟩ (h2 k h)
          · have := h2 k h hs ht
            have := capOf_in hg (z := (k' : Int)) (by omega)
            simp only at hcap
            omega
        · subst h; exact ⟨sub_refl _, sub_refl _⟩
      · rw [if_neg hlt]
        rcases ih with ⟨h1, _⟩ | ⟨l0, m0, hsub, hl, hm⟩
        · exact absurd (.inl (by omega)) hlt
        by_cases heq : capOf es (i : Int) = x.1
        · rw [if_pos heq]
          refine .inr ⟨iand0 _ _, ior0 _ _, fun k hk hs ht hcap => ?_, fun v hvv => ?_, fun v hvv => ?_⟩
          · rcases Nat.lt_succ_iff_lt_or_eq.1 hk with h | h
            · obtain ⟨h1, h2⟩ := hsub k h hs ht hcap
              exact ⟨fun v hv => h1 v (by simp only [has_iand, Bool.and_eq_true] at hv; exact hv.1), fun v hv => by simp only [has_ior, h2 v hv]; rfl⟩
            · subst h
              exact ⟨fun v hv => by simp only [has_iand, Bool.and_eq_true] at hv; exact hv.2, fun v hv => by simp only [has_ior, hv, Bool.or_true]⟩
          · simp only [has_iand, Bool.and_eq_false_iff] at hvv
            rcases hvv with hvv | hvv
            · obtain ⟨k, k1, k2⟩ := hl v hvv; exact ⟨k, by omega, k2⟩
            · exact ⟨i, by omega, hv.1, hv.2, heq, hvv⟩
          · simp only [has_ior, Bool.or_eq_true] at hvv
            rcases hvv with hvv | hvv
            · obtain ⟨k, k1, k2⟩ := hm v hvv; exact ⟨k, by omega, k2⟩
            · exact ⟨i, by omega, hv.1, hv.2, heq, hvv⟩
        · rw [if_neg heq]
          refine .inr ⟨l0, m0, fun k hk hs ht hcap => ?_, fun v hvv => ?_, fun v hvv => ?_⟩
          · rcases Nat.lt_succ_iff_lt_or_eq.1 hk with h | h
            · exact hsub k h hs ht hcap
            · subst h; exact absurd hcap heq
          · obtain ⟨k, k1, k2⟩ := hl v hvv; exact ⟨k, by omega, k2⟩
          · obtain ⟨k, k1, k2⟩ := hm v hvv; exact ⟨k, by omega, k2⟩
    · rw [pstep_skip hv hi0]
      rcases ih with ⟨h1, h2⟩ | ⟨l0, m0, hsub, hl, hm⟩
      · refine .inl ⟨h1, fun k hk => ?_⟩
        rcases Nat.lt_succ_iff_lt_or_eq.1 hk with h | h
        · exact h2 k h
        · subst h; exact hv
      · refine .inr ⟨l0, m0, fun k hk hs ht hcap => ?_, fun v hvv => ?_, fun v hvv => ?_⟩
        · rcases Nat.lt_succ_iff_lt_or_eq.1 hk with h | h
          · exact hsub k h hs ht hcap
          · subst h; exact absurd ⟨hs, ht⟩ hv
        · obtain ⟨k, k1, k2⟩ := hl v hvv; exact ⟨k, by omega, k2⟩
        · obtain ⟨k, k1, k2⟩ := hm v hvv; exact ⟨k, by omega, k2⟩
/-- A side of the least Cap. -/
def MinCut (n s t : Int) (es : List Arc) (z : Int) : Prop := Parts n s t z ∧ capOf es z = (parted n s t es).1
theorem MinCut.at_ {n s t : Int} {es : List Arc} {z : Int} (h : MinCut n s t es z) : ∃ k : Nat, z = (k : Int) ∧ k < 2 ^ n.toNat ∧ bit (k : Int) s = 1 ∧ bit (k : Int) t = 0 ∧ capOf es (k : Int) = (parted n s t es).1 := by
  obtain ⟨⟨z0, z1, z2, z3⟩, hc⟩ := h
  have hzn : ((z.toNat : Nat) : Int) = z := by omega
  exact ⟨z.toNat, hzn.symm, by omega, by rw [hzn]; exact z2, by rw [hzn]; exact z3, by rw [hzn]; exact hc⟩
theorem parted_low {n s t : Int} {es : List Arc} (hg : GOk n es 0) {z : Int} (h : MinCut n s t es z) (hmin : ∀ w, MinCut n s t es w → sub z w) : (parted n s t es).2.1 = z := by
  obtain ⟨k, rfl, k1, k2, k3, k4⟩ := h.at_
  have hps := parted_sides (s := s) (t := t) hg (2 ^ n.toNat)
  change (parted n s t es).1 = -1 ∧ _ ∨ (0 ≤ (parted n s t es).2.1 ∧ 0 ≤ (parted n s t es).2.2 ∧ _ ∧ _ ∧ _) at hps
  rcases hps with ⟨_, h2⟩ | ⟨l0, _, hsub, hl, _⟩
  · exact absurd ⟨k2, k3⟩ (h2 k k1)
  · refine sub_antisymm l0 (by omega) (hsub k k1 k2 k3 k4).1 fun v hv => ?_
    cases e : has (parted n s t es).2.1 v
    · obtain ⟨j, j1, j2, j3, j4, j5⟩ := hl v e
      have := hmin (j : Int) ⟨⟨by omega, by omega, j2, j3⟩, j4⟩ v hv
      rw [j5] at this; cases this
    · rfl
theorem parted_high {n s t : Int} {es : List Arc} (hg : GOk n es 0) {z : Int} (h : MinCut n s t es z) (hmax : ∀ w, MinCut n s t es w → sub w z) : (parted n s t es).2.2 = z := by
  obtain ⟨k, rfl, k1, k2, k3, k4⟩ := h.at_
  have hps := parted_sides (s := s) (t := t) hg (2 ^ n.toNat)
  change (parted n s t es).1 = -1 ∧ _ ∨ (0 ≤ (parted n s t es).2.1 ∧ 0 ≤ (parted n s t es).2.2 ∧ _ ∧ _ ∧ _) at hps
  rcases hps with ⟨_, h2⟩ | ⟨_, m0, hsub, _, hm⟩
  · exact absurd ⟨k2, k3⟩ (h2 k k1)
  · refine sub_antisymm m0 (by omega) (fun v hv => ?_) (hsub k k1 k2 k3 k4).2
    obtain ⟨j, j1, j2, j3, j4, j5⟩ := hm v hv
    exact hmax (j : Int) ⟨⟨by omega, by omega, j2, j3⟩, j4⟩ v j5
theorem MinCut.clo {n s t : Int} {es : List Arc} {f : List Int} {z : Int} (h : MinCut n s t es z) (hf : FlOk n s t es f) (hv : gone es f s = (parted n s t es).1) : Clo es f false z :=
  clo_of_shut h.1.1 (side_shut h.1.1 hf.fin (by rw [side_value hf h.1, hv, h.2])) hf.fin
theorem MinCut.exists_ {n s t : Int} {es : List Arc} (hok : NOk n s t es) : ∃ z, MinCut n s t es z := by
  have hg := hok.toGOk
  have h4 := hok.s0; have h5 := hok.s1; have h6 := hok.t0; have h7 := hok.t1; have hne := hok.ne
  rcases parted_fold (s := s) (t := t) hg (2 ^ n.toNat) with ⟨_, h2⟩ | ⟨⟨k, k1, k2, k3, k4⟩, _⟩
  · refine absurd ⟨?_, ?_⟩ (h2 (2 ^ s.toNat) (Nat.pow_lt_pow_right (by decide) (by omega)))
    · rw [bit_yes (Int.natCast_nonneg _), ← pow_nat, ← Int.one_mul (2 ^ s.toNat), has_pow]; simp
    · rw [bit_no (Int.natCast_nonneg _), ← pow_nat, ← Int.one_mul (2 ^ s.toNat), has_pow]; simp; omega
  · exact ⟨(k : Int), ⟨by omega, by omega, k2, k3⟩, k4.symm⟩
theorem MinCut.of_clo {n s t : Int} {es : List Arc} {f : List Int} {z : Int} (hz : Parts n s t z) (hf : FlOk n s t es f) (hv : gone es f s = (parted n s t es).1) (hc : Clo es f false z) : MinCut n s t es z :=
  ⟨hz, by rw [← hv, ← side_value hf hz, side_eq hz.1 hf.fin.len (shut_of_clo hz.1 hc hf.fin)]⟩
/-- The least side. -/
theorem spread_low {n s t : Int} {es : List Arc} {f : List Int} {z : Int} (hf : FlOk n s t es f) (hv : gone es f s = (parted n s t es).1) (h : SprOk es f false n s z) : MinCut n s t es z ∧ (parted n s t es).2.1 = z := by
  obtain ⟨hs, hc⟩ := h
  have hmin : ∀ w, MinCut n s t es w → sub z w := fun w hw => hs.min w (hw.clo hf hv) ((bit_yes hw.1.1).1 hw.1.2.2.1)
  have hP : Parts n s t z := by
    refine ⟨hs.z0, lt_has hs.z0 hs.lt, (bit_yes hs.z0).2 hs.at_, (bit_no hs.z0).2 ?_⟩
    obtain ⟨w, hw⟩ := MinCut.exists_ hf.net
    cases e : has z t.toNat
    · rfl
    · have := hmin w hw _ e
      rw [(bit_no hw.1.1).1 hw.1.2.2.2] at this; cases this
  have hM := MinCut.of_clo hP hf hv hc
  exact ⟨hM, parted_low hf.net.toGOk hM hmin⟩
/-- The greatest side. -/
theorem spread_high {n s t : Int} {es : List Arc} {f : List Int} {z w : Int} (hf : FlOk n s t es f) (hv : gone es f s = (parted n s t es).1) (h : SprOk es f true n t z) (hw0 : 0 ≤ w) (hw : ∀ v, has w v = (decide (v < n.toNat) && !has z v)) : MinCut n s t es w ∧ (parted n s t es).2.2 = w := by
  obtain ⟨hs, hc⟩ := h
  have hok := hf.net
  have h4 := hok.s0; have h5 := hok.s1; have h6 := hok.t0; have h7 := hok.t1
  have he : ∀ k, k < es.length → (es.getD k default).src.toNat < n.toNat ∧ (es.getD k default).dst.toNat < n.toNat := fun k hk => by
    obtain ⟨a1, a2, a3, a4, _, _⟩ := hok.at_ hk
    exact ⟨by omega, by omega⟩
  have hcw : Clo es f false w := clo_compl (tr := true) (fun v hv => by rw [hw v]; simp [hv]) he hc
  have hmax : ∀ x, MinCut n s t es x → sub x w := by
    intro x hx v hxv
    have hxc := hx.clo hf hv
    have hvn : v < n.toNat := by
      refine Classical.byContradiction fun hn => ?_
      rw [has_lt hx.1.1 hx.1.2.1 (by omega)] at hxv; cases hxv
    rw [hw v]
    -- the nodes outside of x, as a number
    have hcx : Clo es f true (iandn (1 * 2 ^ n.toNat - 1) x) := clo_compl (tr := false) (fun u hu => by rw [has_iandn, has_mask]; simp [hu]) he hxc
    have := hs.min _ hcx (by rw [has_iandn, has_mask, (bit_no hx.1.1).1 hx.1.2.2.2]; simp; omega)
    cases e : has z v
    · simp [hvn]
    · have := this v e
      rw [has_iandn, hxv] at this; simp at this
  have hP : Parts n s t w := by
    refine ⟨hw0, lt_has hw0 (fun v hv => by rw [hw v]; simp; omega), (bit_yes hw0).2 ?_, (bit_no hw0).2 ?_⟩
    · obtain ⟨x, hx⟩ := MinCut.exists_ hf.net
      exact hmax x hx _ ((bit_yes hx.1.1).1 hx.1.2.2.1)
    · rw [hw, hs.at_]; simp
  have hM := MinCut.of_clo hP hf hv hcw
  exact ⟨hM, parted_high hok.toGOk hM hmax⟩
/-- What comes to the sink, as a number. -/
theorem spread_back {n s t : Int} {es : List Arc} {f : List Int} {z : Int} (hf : FlOk n s t es f) (hv : gone es f s = (parted n s t es).1) (h : SprOk es f true n t z) : z = iandn (1 * 2 ^ n.toNat - 1) (parted n s t es).2.2 := by
  have h1 := (spread_high hf hv h (iandn0 (1 * 2 ^ n.toNat - 1) z) (fun v => by rw [has_iandn, has_mask])).2
  rw [h1]
  refine side_ext h.1.z0 (iandn0 _ _) fun v => ?_
  rw [has_iandn, has_iandn, has_mask]
  by_cases hv : v < n.toNat
  · simp [hv]
  · rw [h.1.lt v (by omega)]; simp [hv]
theorem high_back {n s t : Int} {es : List Arc} (_hg : GOk n es 0) (_h0 : 0 ≤ (parted n s t es).2.2) (hlt : ∀ v, n.toNat ≤ v → has (parted n s t es).2.2 v = false) : iandn (1 * 2 ^ n.toNat - 1) (iandn (1 * 2 ^ n.toNat - 1) (parted n s t es).2.2) = (parted n s t es).2.2 := by
  refine side_ext (iandn0 _ _) _h0 fun v => ?_
  rw [has_iandn, has_iandn, has_mask]
  by_cases hv : v < n.toNat
  · simp [hv]
  · rw [hlt v (by omega)]; simp [hv]
theorem iandn_in {n : Int} {w : Int} (h0 : 0 ≤ n) (h2 : n ≤ 12) : 0 ≤ iandn (1 * 2 ^ n.toNat - 1) w ∧ iandn (1 * 2 ^ n.toNat - 1) w ≤ 65535 := by
  have h1 : iandn (1 * 2 ^ n.toNat - 1) w < ((2 ^ n.toNat : Nat) : Int) := lt_has (iandn0 _ _) fun v hv => by rw [has_iandn, has_mask]; simp; omega
  have h3 := pow_le12 (n := n.toNat) (by omega)
  exact ⟨iandn0 _ _, by omega⟩
/-- The greatest side's facts. -/
theorem MinCut.high {n s t : Int} {es : List Arc} (hok : NOk n s t es) : 0 ≤ (parted n s t es).2.2 ∧ (∀ v, n.toNat ≤ v → has (parted n s t es).2.2 v = false) ∧ 0 ≤ (parted n s t es).2.1 ∧ (∀ v, n.toNat ≤ v → has (parted n s t es).2.1 v = false) := by
  have hps := parted_sides (s := s) (t := t) hok.toGOk (2 ^ n.toNat)
  obtain ⟨z, hz⟩ := MinCut.exists_ hok
  obtain ⟨k, rfl, k1, k2, k3, k4⟩ := hz.at_
  change (parted n s t es).1 = -1 ∧ _ ∨ (0 ≤ (parted n s t es).2.1 ∧ 0 ≤ (parted n s t es).2.2 ∧ _ ∧ _ ∧ _) at hps
  rcases hps with ⟨_, h2⟩ | ⟨l0, m0, hsub, _, hm⟩
  · exact absurd ⟨k2, k3⟩ (h2 k k1)
  · refine ⟨m0, fun v hv => ?_, l0, fun v hv => ?_⟩
    · cases e : has (parted n s t es).2.2 v
      · rfl
      · obtain ⟨j, j1, _, _, _, j5⟩ := hm v e
        rw [has_lt (by omega) (by omega) hv] at j5; cases j5
    · cases e : has (parted n s t es).2.1 v
      · rfl
      · have := (hsub k k1 k2 k3 k4).1 v e
        rw [has_lt (by omega) (by omega) hv] at this; cases this
theorem cap_if {z : Int} (hz : 0 ≤ z) (c a b : Int) : c * bit z a * (1 - bit z b) = if bit z a = 1 ∧ bit z b = 0 then c else 0 := by
  rcases bit_01 a hz with e1 | e1 <;> rcases bit_01 b hz with e2 | e2 <;> rw [e1, e2] <;> simp
theorem pw16 {v : Int} (_h0 : 0 ≤ v) (h1 : v < 16) : (0 : Int) ≤ 1 * 2 ^ v.toNat ∧ (1 : Int) * 2 ^ v.toNat ≤ 32768 := by
  have h : 2 ^ v.toNat ≤ 32768 := Nat.pow_le_pow_right (n := 2) (i := v.toNat) (j := 15) (by decide) (by omega)
  rw [Int.one_mul, pow_nat]
  exact ⟨Int.natCast_nonneg _, Int.ofNat_le.2 h⟩
theorem pw1 (k : Nat) : (1 : Int) ≤ 1 * 2 ^ k := by
  have h : 1 ≤ 2 ^ k := Nat.one_le_two_pow
  rw [Int.one_mul, pow_nat]; exact Int.ofNat_le.2 h
theorem shr_zero {z : Int} {n : Nat} (h0 : 0 ≤ z) : z / 2 ^ n = 0 ↔ z < 1 * 2 ^ n := by
  rw [Int.one_mul]
  have hp : (0 : Int) < 2 ^ n := Int.pow_pos (by decide)
  constructor
  · intro h
    have := Int.lt_ediv_add_one_mul_self z hp
    rw [h] at this; omega
  · intro h; exact Int.ediv_eq_zero_of_lt h0 h
/-- The error of a side. -/
def capErr (n s t : Int) (es : List Arc) (z : Int) : Int := if netErr n s t es ≠ 0 then netErr n s t es else if 1 * 2 ^ n.toNat ≤ z ∨ bit z s = 0 ∨ bit z t = 1 then 3 else 0
theorem capErr_zero {n s t : Int} {es : List Arc} {z : Int} (hE : netErr n s t es = 0) (hz : 0 ≤ z) : capErr n s t es z = 0 ↔ z < 1 * 2 ^ n.toNat ∧ bit z s = 1 ∧ bit z t = 0 := by
  have h1 := bit_01 s hz
  have h2 := bit_01 t hz
  unfold capErr
  rw [if_neg (by omega)]
  split <;> omega
/-! ### Both of two sides, and all of them: what they take -/
theorem bit_iand {a b : Int} (ha : 0 ≤ a) (hb : 0 ≤ b) (v : Int) : bit (iand a b) v = if bit a v = 1 ∧ bit b v = 1 then 1 else 0 := by
  rw [bit_has v (iand0 _ _), bit_has v ha, bit_has v hb, has_iand]
  cases has a v.toNat <;> cases has b v.toNat <;> rfl
theorem bit_ior {a b : Int} (ha : 0 ≤ a) (hb : 0 ≤ b) (v : Int) : bit (ior a b) v = if bit a v = 1 ∨ bit b v = 1 then 1 else 0 := by
  rw [bit_has v (ior0 _ _), bit_has v ha, bit_has v hb, has_ior]
  cases has a v.toNat <;> cases has b v.toNat <;> rfl
theorem cap_sub {a b : Int} (ha : 0 ≤ a) (hb : 0 ≤ b) : ∀ {es : List Arc}, (∀ x ∈ es, 0 ≤ x.cap) → capOf es (iand a b) + capOf es (ior a b) ≤ capOf es a + capOf es b
  | [], _ => by simp [capOf]
  | x :: r, h => by
    have h1 := cap_sub ha hb (es := r) (fun y hy => h y (List.mem_cons_of_mem _ hy))
    have h2 := h x List.mem_cons_self
    simp only [capOf]
    rw [bit_iand ha hb, bit_iand ha hb, bit_ior ha hb, bit_ior ha hb]
    rcases bit_01 x.src ha with e1 | e1 <;> rcases bit_01 x.dst ha with e2 | e2 <;> rcases bit_01 x.src hb with e3 | e3 <;> rcases bit_01 x.dst hb with e4 | e4 <;> rw [e1, e2, e3, e4] <;> simp <;> omega
theorem MinCut.min {n s t : Int} {es : List Arc} (hg : GOk n es 0) {z w : Int} (h : MinCut n s t es z) (hw : Parts n s t w) : capOf es z ≤ capOf es w := by
  obtain ⟨w0, w1, w2, w3⟩ := hw
  have hwn : ((w.toNat : Nat) : Int) = w := by omega
  rw [h.2]
  rcases parted_fold (s := s) (t := t) hg (2 ^ n.toNat) with ⟨_, h2⟩ | ⟨_, h2⟩
  · exact absurd (by rw [hwn]; exact ⟨w2, w3⟩) (h2 w.toNat (by omega))
  · have := h2 w.toNat (by omega) (by rw [hwn]; exact w2) (by rw [hwn]; exact w3)
    rwa [hwn] at this
theorem MinCut.meet {n s t : Int} {es : List Arc} (hg : GOk n es 0) {a b : Int} (h1 : MinCut n s t es a) (h2 : MinCut n s t es b) : MinCut n s t es (iand a b) ∧ MinCut n s t es (ior a b) := by
  have hl1 : ∀ v, n.toNat ≤ v → has a v = false := fun v hv => has_lt h1.1.1 h1.1.2.1 hv
  have hl2 : ∀ v, n.toNat ≤ v → has b v = false := fun v hv => has_lt h2.1.1 h2.1.2.1 hv
  have p1 : Parts n s t (iand a b) := ⟨iand0 _ _, lt_has (iand0 _ _) fun v hv => by rw [has_iand, hl1 v hv]; rfl, by rw [bit_iand h1.1.1 h2.1.1, if_pos ⟨h1.1.2.2.1, h2.1.2.2.1⟩], by rw [bit_iand h1.1.1 h2.1.1, if_neg (by rw [h1.1.2.2.2]; simp)]⟩
  have p2 : Parts n s t (ior a b) := ⟨ior0 _ _, lt_has (ior0 _ _) fun v hv => by rw [has_ior, hl1 v hv, hl2 v hv]; rfl, by rw [bit_ior h1.1.1 h2.1.1, if_pos (.inl h1.1.2.2.1)], by rw [bit_ior h1.1.1 h2.1.1, if_neg (by rw [h1.1.2.2.2, h2.1.2.2.2]; simp)]⟩
  have hs := cap_sub h1.1.1 h2.1.1 (es := es) (fun x hx => (hg.arc x hx).2.2.2.2.1)
  have m1 := h1.min hg p1
  have m2 := h1.min hg p2
  have e1 := h1.2
  have e2 := h2.2
  exact ⟨⟨p1, by omega⟩, ⟨p2, by omega⟩⟩
/-- The least side is a side of the least Cap. -/
theorem MinCut.low {n s t : Int} {es : List Arc} (hok : NOk n s t es) : MinCut n s t es (parted n s t es).2.1 ∧ ∀ w, MinCut n s t es w → sub (parted n s t es).2.1 w := by
  have hg := hok.toGOk
  have hps := parted_sides (s := s) (t := t) hg (2 ^ n.toNat)
  obtain ⟨z, hz⟩ := MinCut.exists_ hok
  obtain ⟨k, rfl, k1, k2, k3, k4⟩ := hz.at_
  change (parted n s t es).1 = -1 ∧ _ ∨ (0 ≤ (parted n s t es).2.1 ∧ 0 ≤ (parted n s t es).2.2 ∧ _ ∧ _ ∧ _) at hps
  rcases hps with ⟨_, h2⟩ | ⟨l0, m0, hsub, hl, _⟩
  · exact absurd ⟨k2, k3⟩ (h2 k k1)
  have hall : ∀ w, MinCut n s t es w → sub (parted n s t es).2.1 w := fun w hw => by
    obtain ⟨j, rfl, j1, j2, j3, j4⟩ := hw.at_
    exact (hsub j j1 j2 j3 j4).1
  have key : ∀ m : Nat, ∃ w, MinCut n s t es w ∧ ∀ v, v < m → has (parted n s t es).2.1 v = false → has w v = false := by
    intro m
    induction m with
    | zero => exact ⟨_, hz, fun v hv => by omega⟩
    | succ m ih =>
      obtain ⟨w, hw, h1⟩ := ih
      cases e : has (parted n s t es).2.1 m
      · obtain ⟨j, j1, j2, j3, j4, j5⟩ := hl m e
        refine ⟨iand w (j : Int), (hw.meet hg ⟨⟨by omega, by omega, j2, j3⟩, j4⟩).1, fun v hv hvv => ?_⟩
        rw [has_iand]
        rcases Nat.lt_succ_iff_lt_or_eq.1 hv with h | h
        · rw [h1 v h hvv]; rfl
        · subst h; rw [j5]; cases has w v <;> rfl
      · refine ⟨w, hw, fun v hv hvv => ?_⟩
        rcases Nat.lt_succ_iff_lt_or_eq.1 hv with h | h
        · exact h1 v h hvv
        · subst h; rw [e] at hvv; cases hvv
  obtain ⟨w, hw, h1⟩ := key n.toNat
  have hwe : w = (parted n s t es).2.1 := by
    refine sub_antisymm hw.1.1 l0 (fun v hv => ?_) (hall w hw)
    cases e : has (parted n s t es).2.1 v
    · by_cases hvn : v < n.toNat
      · rw [h1 v hvn e] at hv; cases hv
      · rw [has_lt hw.1.1 hw.1.2.1 (by omega)] at hv; cases hv
    · rfl
  exact ⟨hwe ▸ hw, hall⟩
end Go.Ab
