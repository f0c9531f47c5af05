/- Of trees: a leaf, and what is left without it. -/
import Derived.Test.YtakfbagokponeaaPlLap
import Derived.Test.YtakfbagokponeaaPlTree2
import Derived.Test.YtakfbagokponeaaPlSpan
namespace Go.Ab
def nodesN (n : Nat) (live : Nat → Bool) : Nat := (List.range n).countP live
theorem nodes_sum (n : Nat) (live : Nat → Bool) : nodesN n live = sumN n fun v => if live v = true then 1 else 0 := by
  induction n with
  | zero => rfl
  | succ n ih => unfold nodesN at ih ⊢; rw [List.range_succ, List.countP_append, sumN, ih, List.countP_singleton]
structure Tr (n : Nat) (live : Nat → Bool) (es : List Arc) : Prop where
  in_ : ∀ a ∈ es, ∃ u v : Nat, a.src = u ∧ a.dst = v ∧ u < n ∧ v < n ∧ live u = true ∧ live v = true
  len : es.length + 1 = nodesN n live
  con : ∀ u v : Nat, u < n → v < n → live u = true → live v = true → Lk es u v
theorem Tr.inN {n : Nat} {live : Nat → Bool} {es : List Arc} (h : Tr n live es) : InN n es := fun a ha => by
  obtain ⟨u, v, h1, h2, h3, h4, _⟩ := h.in_ a ha
  omega
theorem lk_iso {es : List Arc} {f : Int} (h : ∀ a ∈ es, a.src = f ↔ a.dst = f) {u v : Int} (hl : Lk es u v) : u = f ↔ v = f := by
  induction hl with
  | refl u => exact Iff.rfl
  | symm _ ih => exact ih.symm
  | trans _ _ h1 h2 => exact h1.trans h2
  | arc ha => exact h _ ha
theorem deg_none {es : List Arc} {v : Int} (h : degT es v = 0) : ∀ a ∈ es, a.src ≠ v ∧ a.dst ≠ v := fun a ha => by
  have h1 := List.countP_eq_zero.1 h a ha
  unfold touch at h1
  rw [Bool.or_eq_true, decide_eq_true_eq, decide_eq_true_eq] at h1
  exact ⟨fun q => h1 (.inl q), fun q => h1 (.inr q)⟩
theorem inj_id (n : Nat) : Inj n fun i => i := fun _ _ _ _ e => e
theorem deg_sum (n : Nat) : ∀ es : List Arc, sumN n (fun v => degT es v) ≤ 2 * es.length
  | [] => by
    have h0 : ∀ k, sumN k (fun v => degT [] v) = 0 := fun k => by induction k with
      | zero => rfl
      | succ k ih => rw [sumN, ih]; rfl
    rw [h0]; exact Nat.zero_le _
  | a :: r => by
    have h1 := hit_le (σ := fun i => i) a.src (Nat.le_refl n) (inj_id n)
    have h2 := hit_le (σ := fun i => i) a.dst (Nat.le_refl n) (inj_id n)
    have h3 : sumN n (fun v => degT (a :: r) v) ≤ sumN n fun v => degT r v + ((if a.src = (v : Int) then 1 else 0) + (if a.dst = (v : Int) then 1 else 0)) := sumN_le fun v _ => by
      rw [degT_cons]
      unfold touch
      by_cases q1 : a.src = (v : Int) <;> by_cases q2 : a.dst = (v : Int) <;> simp [q1, q2]
    rw [sumN_add, sumN_add] at h3
    have := deg_sum n r
    rw [List.length_cons]
    omega
theorem sumN_lt_ex {f g : Nat → Nat} : ∀ {n : Nat}, sumN n f < sumN n g → ∃ v, v < n ∧ f v < g v
  | 0, h => by cases h
  | n + 1, h => by
    rw [sumN, sumN] at h
    rcases Nat.lt_or_ge (f n) (g n) with q | q
    · exact ⟨n, by omega, q⟩
    · obtain ⟨v, h1, h2⟩ := sumN_lt_ex (f := f) (g := g) (n := n) (by omega)
      exact ⟨v, by omega, h2⟩
theorem nodes_two {n : Nat} {live : Nat → Bool} (h : 2 ≤ nodesN n live) (f : Nat) : ∃ u, u < n ∧ live u = true ∧ u ≠ f := by
  rw [nodes_sum] at h
  have h1 : sumN n (fun v => if f = v then 1 else 0) ≤ 1 := by
    have := hit_le (σ := fun i => i) (f : Int) (Nat.le_refl n) (inj_id n)
    have e : sumN n (fun v => if f = v then 1 else 0) = sumN n (fun v => if (f : Int) = (v : Int) then 1 else 0) := sumN_congr fun v _ => by
      by_cases q : f = v
      · rw [if_pos q, if_pos (by omega)]
      · rw [if_neg q, if_neg (by omega)]
    rw [e]; exact this
  obtain ⟨u, h2, h3⟩ := sumN_lt_ex (f := fun v => if f = v then 1 else 0) (g := fun v => if live v = true then 1 else 0) (n := n) (by omega)
  by_cases q : f = u
  · rw [if_pos q] at h3; split at h3 <;> omega
  · rw [if_neg q] at h3
    refine ⟨u, h2, ?_, fun e => q e.symm⟩
    cases e : live u
    · rw [e] at h3; simp at h3
    · rfl
theorem Tr.deg_pos {n : Nat} {live : Nat → Bool} {es : List Arc} (h : Tr n live es) (he : 0 < es.length) {v : Nat} (hv : v < n) (hl : live v = true) : 0 < degT es v := by
  rcases Nat.eq_zero_or_pos (degT es v) with q | q
  · obtain ⟨u, h1, h2, h3⟩ := nodes_two (n := n) (live := live) (by have := h.len; omega) v
    have h4 := deg_none q
    have h5 := (lk_iso (f := (v : Int)) (fun a ha => ⟨fun e => absurd e (h4 a ha).1, fun e => absurd e (h4 a ha).2⟩) (h.con v u hv h1 hl h2)).1 rfl
    omega
  · exact q
theorem Tr.leaf {n : Nat} {live : Nat → Bool} {es : List Arc} (h : Tr n live es) (he : 0 < es.length) : ∃ f, f < n ∧ degT es f = 1 := by
  have h1 := deg_sum n es
  have h2 := h.len
  rw [nodes_sum] at h2
  have h3 : sumN n (fun v => 2 * if live v = true then 1 else 0) = 2 * sumN n (fun v => if live v = true then 1 else 0) := sumN_mul _ _ _
  obtain ⟨f, g1, g2⟩ := sumN_lt_ex (f := fun v => degT es v) (g := fun v => 2 * if live v = true then 1 else 0) (n := n) (by omega)
  refine ⟨f, g1, ?_⟩
  have hl : live f = true := by
    cases e : live f
    · rw [e] at g2; simp at g2
    · rfl
  have := h.deg_pos he g1 hl
  rw [if_pos hl] at g2
  omega
theorem deg_one {es : List Arc} {f : Int} (h : degT es f = 1) : ∃ pre a post, es = pre ++ a :: post ∧ touch a f = true ∧ degT pre f = 0 ∧ degT post f = 0 := by
  have h1 : 0 < es.countP fun a => touch a f := by unfold degT at h; omega
  obtain ⟨a, ha, ht⟩ := List.countP_pos_iff.1 h1
  obtain ⟨pre, post, rfl⟩ := List.append_of_mem ha
  unfold degT at h ⊢
  rw [List.countP_append, List.countP_cons, if_pos ht] at h
  exact ⟨pre, a, post, rfl, ht, by omega, by omega⟩
theorem deg_app (es fs : List Arc) (v : Int) : degT (es ++ fs) v = degT es v + degT fs v := by unfold degT; exact List.countP_append
def ends (a : Arc) (f k : Int) : Prop := (a.src = f ∧ a.dst = k) ∨ (a.src = k ∧ a.dst = f)
structure LeafAt (n : Nat) (live : Nat → Bool) (pre : List Arc) (a : Arc) (post : List Arc) (f k : Nat) : Prop where
  fn : f < n
  kn : k < n
  fk : f ≠ k
  lf : live f = true
  lk : live k = true
  en : ends a f k
  dpre : degT pre f = 0
  dpost : degT post f = 0
  tr : Tr n (fun v => live v && !decide (v = f)) (pre ++ post)
theorem Tr.cut {n : Nat} {live : Nat → Bool} {pre post : List Arc} {a : Arc} (h : Tr n live (pre ++ a :: post)) {f : Nat} (ht : touch a f = true) (h1 : degT pre f = 0) (h2 : degT post f = 0) : ∃ k, LeafAt n live pre a post f k := by
  have hlen := h.len
  rw [List.length_append, List.length_cons] at hlen
  obtain ⟨u, v, hu, hv, un, vn, lu, lv⟩ := h.in_ a (by simp)
  unfold touch at ht
  rw [Bool.or_eq_true, decide_eq_true_eq, decide_eq_true_eq] at ht
  have hp := deg_none h1
  have hq := deg_none h2
  have hex : ∃ k, k < n ∧ live k = true ∧ ends a f k ∧ f < n ∧ live f = true := by
    rcases ht with e | e
    · have : f = u := by omega
      subst this
      exact ⟨v, vn, lv, .inl ⟨hu, hv⟩, un, lu⟩
    · have : f = v := by omega
      subst this
      exact ⟨u, un, lu, .inr ⟨hu, hv⟩, vn, lv⟩
  obtain ⟨k, kn, lk, he, fn, lf⟩ := hex
  have hfk : f ≠ k := fun q => by
    subst q
    obtain ⟨w, w1, w2, w3⟩ := nodes_two (n := n) (live := live) (by omega) f
    have hb : ∀ b ∈ pre ++ a :: post, b.src = (f : Int) ↔ b.dst = (f : Int) := fun b hb => by
      rw [List.mem_append, List.mem_cons] at hb
      rcases hb with hb | rfl | hb
      · exact ⟨fun e => absurd e (hp b hb).1, fun e => absurd e (hp b hb).2⟩
      · rcases he with ⟨e1, e2⟩ | ⟨e1, e2⟩ <;> exact ⟨fun _ => e2, fun _ => e1⟩
      · exact ⟨fun e => absurd e (hq b hb).1, fun e => absurd e (hq b hb).2⟩
    have := (lk_iso hb (h.con f w fn w1 lf w2)).1 rfl
    omega
  refine ⟨k, fn, kn, hfk, lf, lk, he, h1, h2, fun b hb => ?_, ?_, ?_⟩
  · rw [List.mem_append] at hb
    obtain ⟨x, y, b1, b2, b3, b4, b5, b6⟩ := h.in_ b (by rw [List.mem_append, List.mem_cons]; rcases hb with hb | hb; exact .inl hb; exact .inr (.inr hb))
    have hn : b.src ≠ (f : Int) ∧ b.dst ≠ (f : Int) := by rcases hb with hb | hb; exact hp b hb; exact hq b hb
    refine ⟨x, y, b1, b2, b3, b4, ?_, ?_⟩
    · rw [b5, decide_eq_false (by omega)]; rfl
    · rw [b6, decide_eq_false (by omega)]; rfl
  · rw [List.length_append]
    have e1 : nodesN n live = nodesN n (fun v => live v && !decide (v = f)) + 1 := by
      rw [nodes_sum, nodes_sum]
      have e2 : sumN n (fun v => if live v = true then 1 else 0) = sumN n (fun v => (if (live v && !decide (v = f)) = true then 1 else 0) + if f = v then 1 else 0) := sumN_congr fun v _ => by
        by_cases q : v = f
        · subst q; simp [lf]
        · have q2 : ¬ f = v := fun e => q e.symm
          simp [q, q2]
      rw [e2, sumN_add]
      have e3 : ∀ m, f < m → sumN m (fun v => if f = v then 1 else 0) = 1 := fun m => by
        induction m with
        | zero => intro q; omega
        | succ m ih =>
          intro q
          rw [sumN]
          by_cases e : f = m
          · rw [if_pos e]
            have : sumN m (fun v => if f = v then 1 else 0) = sumN m (fun _ => 0) := sumN_congr fun v hv => if_neg (by omega)
            rw [this]
            have h0 : ∀ k, sumN k (fun _ => 0) = 0 := fun k => by induction k with
              | zero => rfl
              | succ k ih => rw [sumN, ih]
            rw [h0]
          · rw [if_neg e, ih (by omega)]
      rw [e3 n fn]
    omega
  · have hstep : ∀ x y : Int, Lk (pre ++ a :: post) x y → Lk (pre ++ post) (if x = f then (k : Int) else x) (if y = f then (k : Int) else y) := fun x y hl => by
      induction hl with
      | refl u => exact .refl _
      | symm _ ih => exact .symm ih
      | trans _ _ g1 g2 => exact .trans g1 g2
      | @arc b hb =>
        rw [List.mem_append, List.mem_cons] at hb
        rcases hb with hb | rfl | hb
        · rw [if_neg (hp b hb).1, if_neg (hp b hb).2]
          exact .arc (List.mem_append.2 (.inl hb))
        · rcases he with ⟨e1, e2⟩ | ⟨e1, e2⟩
          · rw [if_pos e1, e2, if_neg (by omega)]; exact .refl _
          · rw [if_pos e2, e1, if_neg (by omega)]; exact .refl _
        · rw [if_neg (hq b hb).1, if_neg (hq b hb).2]
          exact .arc (List.mem_append.2 (.inr hb))
    intro x y hx hy lx ly
    simp only [Bool.and_eq_true, Bool.not_eq_true', decide_eq_false_iff_not] at lx ly
    have := hstep x y (h.con x y hx hy lx.1 ly.1)
    rwa [if_neg (by omega), if_neg (by omega)] at this
theorem Tr.find {n : Nat} {live : Nat → Bool} {es : List Arc} (h : Tr n live es) {f : Nat} (hf : degT es f = 1) : ∃ pre a post k, es = pre ++ a :: post ∧ LeafAt n live pre a post f k := by
  obtain ⟨pre, a, post, rfl, ht, h1, h2⟩ := deg_one hf
  obtain ⟨k, hk⟩ := h.cut ht h1 h2
  exact ⟨pre, a, post, k, rfl, hk⟩
theorem LeafAt.dead {n : Nat} {live : Nat → Bool} {pre post : List Arc} {a : Arc} {f k : Nat} (h : LeafAt n live pre a post f k) : degT (pre ++ post) f = 0 := by
  rw [deg_app, h.dpre, h.dpost]
theorem tr_of {n : Int} {es : List Arc} (h1 : 1 ≤ n) (h12 : n ≤ 12) (hA : InR n es) (hl : (es.length : Int) = n - 1) (hj : ∀ x ∈ joinedOf n es, x = 0) : Tr n.toNat (fun _ => true) es where
  in_ := fun a ha => by
    obtain ⟨a1, a2, a3, a4⟩ := hA a ha
    exact ⟨a.src.toNat, a.dst.toNat, by omega, by omega, by omega, by omega, rfl, rfl⟩
  len := by
    have : nodesN n.toNat (fun _ => true) = n.toNat := by unfold nodesN; rw [List.countP_true, List.length_range]
    omega
  con := fun u v hu hv _ _ => by
    have hz : ∀ w, w < n.toNat → (joinedOf n es).getD w 0 = 0 := fun w hw => hj _ (getD_mem (by rw [joinedOf_len]; exact hw))
    exact (lk_root h12 hA (by omega) (by omega)).1 (by rw [hz u hu, hz v hv])
end Go.Ab
