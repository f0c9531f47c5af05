/- Of the table of a graph with some rows struck out: how many trees a tree has, and a tree with one arc more. -/
import Derived.Test.YtakfbagokponeaaPlCount
namespace Go.Ab
theorem det_addrow {n : Nat} {A : Nat → Nat → Int} {r t : Nat} (hr : r < n) (ht : t < n) (hrt : r ≠ t) (c : Int) : det n (setR A r fun j => 1 * A r j + c * A t j) = det n A := by
  rw [det_lin 1 c (A r) (A t) hr, setR_self]
  have : det n (setR A r (A t)) = 0 := det_eq hr ht hrt fun j _ => by rw [setR_at, setR_ne (Ne.symm hrt)]
  rw [this]; omega
theorem det_comb2 {n : Nat} {A : Nat → Nat → Int} {r : Nat} (hr : r < n) (w : Nat → Int) (hw : w r = 0) : ∀ {k : Nat}, k ≤ n → det n (setR A r fun j => A r j + sumTo k fun t => w t * A t j) = det n A
  | 0, _ => by
    have : det n (setR A r fun j => A r j + sumTo 0 fun t => w t * A t j) = det n (setR A r (A r)) := det_congr_row fun j _ => by simp [sumTo]
    rw [this, setR_self]
  | k + 1, hk => by
    have h1 := det_lin (n := n) (A := A) (r := r) 1 (w k) (fun j => A r j + sumTo k fun t => w t * A t j) (A k) hr
    have h2 : det n (setR A r fun j => A r j + sumTo (k + 1) fun t => w t * A t j) = det n (setR A r fun j => 1 * (A r j + sumTo k fun t => w t * A t j) + w k * A k j) := det_congr_row fun j _ => by rw [sumTo]; omega
    rw [h2, h1, det_comb2 hr w hw (by omega)]
    by_cases e : k = r
    · rw [e, hw]; omega
    · have : det n (setR A r (A k)) = 0 := det_eq hr (by omega) (Ne.symm e) fun j _ => by rw [setR_at, setR_ne e]
      rw [this]; omega
theorem sum_but {n r s : Nat} {f : Nat → Int} (hr : r < n) (hs : s < n) (hrs : r ≠ s) : sumTo n (fun t => (if t = r ∨ t = s then 0 else 1) * f t) = sumTo n f - f r - f s := by
  have e : sumTo n f = sumTo n fun t => (if t = r ∨ t = s then 0 else 1) * f t + ((if t = r then f t else 0) + (if t = s then f t else 0)) := sum_congr fun t _ => by
    by_cases q1 : t = r
    · rw [if_pos (.inl q1), if_pos q1, if_neg (by omega)]; omega
    · by_cases q2 : t = s
      · rw [if_pos (.inr q2), if_neg q1, if_pos q2]; omega
      · rw [if_neg (by omega), if_neg q1, if_neg q2]; omega
  rw [e, sum_add, sum_add, sum_one (c := r) hr (fun j _ hj => if_neg hj), sum_one (c := s) hs (fun j _ hj => if_neg hj), if_pos rfl, if_pos rfl]
  omega
theorem cof_row2 {n : Nat} {A : Nat → Nat → Int} (h : ∀ j, j < n → sumTo n (fun i => A i j) = 0) {r s : Nat} (hr : r < n) (hs : s < n) (hrs : r ≠ s) (u : Nat → Int) : det n (setR A r u) = det n (setR A s u) := by
  have h1 := det_comb2 (A := setR A r u) (r := s) hs (fun t => if t = r ∨ t = s then 0 else 1) (by rw [if_pos (.inr rfl)]) (k := n) (Nat.le_refl _)
  have h2 : det n (setR (setR A r u) s fun j => setR A r u s j + sumTo n fun t => (if t = r ∨ t = s then 0 else 1) * setR A r u t j) = det n (setR (setR A r u) s fun j => -1 * A r j + 0 * A r j) := by
    refine det_congr_row fun j hj => ?_
    have h3 : sumTo n (fun t => (if t = r ∨ t = s then 0 else 1) * setR A r u t j) = sumTo n (fun t => (if t = r ∨ t = s then 0 else 1) * A t j) := sum_congr fun t _ => by
      by_cases q : t = r
      · rw [if_pos (.inl q)]; omega
      · rw [setR_ne q]
    rw [h3, sum_but hr hs hrs, h j hj, setR_ne (Ne.symm hrs)]; omega
  have h5 := det_lin (n := n) (A := setR A r u) (r := s) (-1) 0 (A r) (A r) hs
  have h6 := det_swap (n := n) (A := setR A s u) (r := r) (s := s) hr hs hrs
  have h7 : det n (setR (setR (setR A s u) r (setR A s u s)) s (setR A s u r)) = det n (setR (setR A r u) s (A r)) := by
    refine det_congr fun i j hi hj => ?_
    by_cases e : i = s
    · subst e; rw [setR_at, setR_at, setR_ne hrs]
    · rw [setR_ne e, setR_ne e]
      by_cases e0 : i = r
      · subst e0; rw [setR_at, setR_at, setR_at]
      · rw [setR_ne e0, setR_ne e0, setR_ne e]
  rw [h7] at h6
  rw [h2, h5] at h1
  omega
def rt (R : Nat → Bool) (es : List Arc) : Nat → Nat → Int := fun i j => if R i = true then unit i j else lap es i j
def Dr (n : Nat) (es : List Arc) (R : Nat → Bool) : Int := det n (rt R es)
def orR (R : Nat → Bool) (v : Nat) : Nat → Bool := fun i => R i || decide (i = v)
theorem orR_iff {R : Nat → Bool} {v i : Nat} : orR R v i = true ↔ R i = true ∨ i = v := by unfold orR; rw [Bool.or_eq_true, decide_eq_true_eq]
theorem unit_ne {s j : Nat} (h : j ≠ s) : unit s j = 0 := if_neg h
theorem unit_self (s : Nat) : unit s s = 1 := if_pos rfl
theorem det_id : ∀ n : Nat, det n (fun i j => unit i j) = 1
  | 0 => rfl
  | n + 1 => by
    rw [det, sum_one (c := 0) (by omega) (fun j _ hj => by rw [unit_ne hj]; simp), unit_self, sg_zero]
    rw [det_congr (B := fun i j => unit i j) fun i j _ _ => by rw [sk_zero]; unfold unit; by_cases q : j = i <;> simp [q], det_id n]; rfl
theorem Dr_all {n : Nat} {es : List Arc} {R : Nat → Bool} (h : ∀ v, v < n → R v = true) : Dr n es R = 1 := by
  rw [← det_id n]
  exact det_congr fun i j hi _ => if_pos (h i hi)
theorem Dr_nil {n : Nat} {R : Nat → Bool} {v : Nat} (hv : v < n) (h : R v = false) : Dr n [] R = 0 :=
  det_zero_row hv fun j _ => by unfold rt; rw [h]; rfl
theorem ev_none {a : Arc} {f : Nat} (h1 : a.src ≠ (f : Int)) (h2 : a.dst ≠ (f : Int)) : ev a f = 0 := by unfold ev; rw [if_neg h1, if_neg h2]; rfl
theorem lap_dead {f : Nat} : ∀ {es : List Arc}, degT es f = 0 → ∀ i, lap es i f = 0
  | [], _, _ => rfl
  | a :: r, h, i => by
    obtain ⟨h1, h2⟩ := deg_none h a List.mem_cons_self
    have hr : degT r f = 0 := by rw [degT_cons] at h; omega
    rw [lap, ev_none h1 h2, lap_dead hr]; simp
theorem ev_ends {a : Arc} {f k : Nat} (h : ends a f k) (i j : Nat) : ev a i * ev a j = (unit f i - unit k i) * (unit f j - unit k j) := by
  unfold ev unit
  rcases h with ⟨e1, e2⟩ | ⟨e1, e2⟩
  · rw [e1, e2]
    congr 1 <;> congr 1 <;> (by_cases q : (0 : Int) = 0 <;> grind)
  · rw [e1, e2]
    grind
theorem lap_mid (pre post : List Arc) (a : Arc) (i j : Nat) : lap (pre ++ a :: post) i j = lap (pre ++ post) i j + ev a i * ev a j := by
  rw [lap_append, lap, lap_append]; omega
theorem Dr_leaf {n : Nat} {live : Nat → Bool} {pre post : List Arc} {a : Arc} {f k : Nat} (h : LeafAt n live pre a post f k) {R : Nat → Bool} (hR : R f = false) : Dr n (pre ++ a :: post) R = Dr n (pre ++ post) (orR R f) := by
  have hfk := h.fk
  have hdc := lap_dead h.dead
  have hdr : ∀ j, lap (pre ++ post) f j = 0 := fun j => by rw [lap_symm]; exact hdc j
  have hlap : ∀ i j, lap (pre ++ a :: post) i j = lap (pre ++ post) i j + (unit f i - unit k i) * (unit f j - unit k j) := fun i j => by rw [lap_mid, ev_ends h.en]
  have hRf : ¬ R f = true := by rw [hR]; decide
  have hof : orR R f f = true := orR_iff.2 (.inr rfl)
  have hrow : ∀ j, rt R (pre ++ a :: post) f j = unit f j - unit k j := fun j => by
    unfold rt; rw [if_neg hRf, hlap, hdr, unit_self, unit_ne hfk]; omega
  have hmain : Dr n (pre ++ a :: post) R = det n (setR (rt (orR R f) (pre ++ post)) f fun j => 1 * unit f j + -1 * unit k j) := by
    by_cases hk : R k = true
    · refine det_congr fun i j hi hj => ?_
      by_cases e : i = f
      · subst e; rw [setR_at, hrow]; omega
      · rw [setR_ne e]
        unfold rt
        by_cases q : R i = true
        · rw [if_pos q, if_pos (orR_iff.2 (.inl q))]
        · have hik : i ≠ k := fun e2 => q (by rw [e2]; exact hk)
          rw [if_neg q, if_neg (fun q2 => by rcases orR_iff.1 q2 with c | c; exact q c; exact e c), hlap, unit_ne e, unit_ne hik]; simp
    · unfold Dr
      rw [← det_addrow (A := rt R (pre ++ a :: post)) h.kn h.fn (Ne.symm hfk) 1]
      refine det_congr fun i j hi hj => ?_
      by_cases ek : i = k
      · subst ek
        rw [setR_at, setR_ne (Ne.symm hfk), hrow]
        unfold rt
        rw [if_neg hk, if_neg (fun q2 => by rcases orR_iff.1 q2 with c | c; exact hk c; exact hfk c.symm), hlap, unit_self, unit_ne (Ne.symm hfk)]; omega
      · rw [setR_ne ek]
        by_cases e : i = f
        · subst e; rw [setR_at, hrow]; omega
        · rw [setR_ne e]
          unfold rt
          by_cases q : R i = true
          · rw [if_pos q, if_pos (orR_iff.2 (.inl q))]
          · rw [if_neg q, if_neg (fun q2 => by rcases orR_iff.1 q2 with c | c; exact q c; exact e c), hlap, unit_ne e, unit_ne ek]; simp
  rw [hmain, det_lin 1 (-1) (unit f) (unit k) h.fn]
  have h0 : det n (setR (rt (orR R f) (pre ++ post)) f (unit k)) = 0 := det_zero_col h.fn fun i hi => by
    by_cases e : i = f
    · subst e; rw [setR_at]; exact unit_ne hfk
    · rw [setR_ne e]
      unfold rt
      by_cases q : orR R f i = true
      · rw [if_pos q]; exact unit_ne (Ne.symm e)
      · rw [if_neg q]; exact hdc i
  have h1 : setR (rt (orR R f) (pre ++ post)) f (unit f) = rt (orR R f) (pre ++ post) := by
    rw [show unit f = rt (orR R f) (pre ++ post) f from funext fun j => by unfold rt; rw [if_pos hof], setR_self]
  rw [h0, h1]
  unfold Dr; omega
theorem Dr_root {n : Nat} {live : Nat → Bool} {pre post : List Arc} {a : Arc} {f k : Nat} (h : LeafAt n live pre a post f k) {R : Nat → Bool} (hR : R f = true) :
    Dr n (pre ++ a :: post) R = if R k = true then Dr n (pre ++ post) R else Dr n (pre ++ post) R + Dr n (pre ++ post) (orR R k) := by
  have hfk := h.fk
  have hlap : ∀ i j, lap (pre ++ a :: post) i j = lap (pre ++ post) i j + (unit f i - unit k i) * (unit f j - unit k j) := fun i j => by rw [lap_mid, ev_ends h.en]
  by_cases hk : R k = true
  · rw [if_pos hk]
    refine det_congr fun i j hi hj => ?_
    unfold rt
    by_cases q : R i = true
    · rw [if_pos q, if_pos q]
    · have hik : i ≠ k := fun e2 => q (by rw [e2]; exact hk)
      have hif : i ≠ f := fun e2 => q (by rw [e2]; exact hR)
      rw [if_neg q, if_neg q, hlap, unit_ne hif, unit_ne hik]; simp
  · rw [if_neg hk]
    have h1 : Dr n (pre ++ a :: post) R = det n (setR (rt R (pre ++ post)) k fun j => 1 * lap (pre ++ post) k j + 1 * unit k j) := by
      unfold Dr
      rw [← det_addrow (A := rt R (pre ++ a :: post)) h.kn h.fn (Ne.symm hfk) 1]
      refine det_congr fun i j hi hj => ?_
      by_cases ek : i = k
      · subst ek
        rw [setR_at, setR_at]
        unfold rt
        rw [if_neg hk, if_pos hR, hlap, unit_self, unit_ne (Ne.symm hfk)]; omega
      · rw [setR_ne ek, setR_ne ek]
        unfold rt
        by_cases q : R i = true
        · rw [if_pos q, if_pos q]
        · have hif : i ≠ f := fun e2 => q (by rw [e2]; exact hR)
          rw [if_neg q, if_neg q, hlap, unit_ne hif, unit_ne ek]; simp
    rw [h1, det_lin 1 1 (lap (pre ++ post) k) (unit k) h.kn]
    have h2 : setR (rt R (pre ++ post)) k (lap (pre ++ post) k) = rt R (pre ++ post) := by
      rw [show lap (pre ++ post) k = rt R (pre ++ post) k from funext fun j => by unfold rt; rw [if_neg hk], setR_self]
    have h3 : det n (setR (rt R (pre ++ post)) k (unit k)) = Dr n (pre ++ post) (orR R k) := det_congr fun i j _ _ => by
      by_cases ek : i = k
      · subst ek; rw [setR_at]; unfold rt; rw [if_pos (orR_iff.2 (.inr rfl))]
      · rw [setR_ne ek]
        unfold rt
        by_cases q : R i = true
        · rw [if_pos q, if_pos (orR_iff.2 (.inl q))]
        · rw [if_neg q, if_neg (fun q2 => by rcases orR_iff.1 q2 with c | c; exact q c; exact ek c)]
    rw [h2, h3]
    unfold Dr; omega
def Dead (n : Nat) (live R : Nat → Bool) : Prop := ∀ v, v < n → live v = false → R v = true
def liveC (live : Nat → Bool) (f : Nat) : Nat → Bool := fun v => live v && !decide (v = f)
theorem liveC_iff {live : Nat → Bool} {f v : Nat} : liveC live f v = true ↔ live v = true ∧ v ≠ f := by unfold liveC; simp
theorem Tr.some {n : Nat} {live : Nat → Bool} {es : List Arc} (h : Tr n live es) : ∃ v, v < n ∧ live v = true := by
  have h1 := h.len
  unfold nodesN at h1
  obtain ⟨v, hv, hl⟩ := List.countP_pos_iff.1 (show 0 < (List.range n).countP live by omega)
  exact ⟨v, List.mem_range.1 hv, hl⟩
theorem dr_none {n : Nat} : ∀ (m : Nat) {live R : Nat → Bool} {es : List Arc}, es.length = m → Tr n live es → (∀ v, v < n → live v = true → R v = false) → Dr n es R = 0
  | 0, live, R, es, hm, h, hR => by
    obtain rfl : es = [] := List.eq_nil_of_length_eq_zero hm
    obtain ⟨v, hv, hl⟩ := h.some
    exact Dr_nil hv (hR v hv hl)
  | m + 1, live, R, es, hm, h, hR => by
    obtain ⟨f, fn, hf⟩ := h.leaf (by omega)
    obtain ⟨pre, a, post, k, rfl, hL⟩ := h.find hf
    have hl2 : (pre ++ post).length = m := by rw [List.length_append, List.length_cons] at hm; rw [List.length_append]; omega
    rw [Dr_leaf hL (hR f fn hL.lf)]
    refine dr_none m hl2 hL.tr fun v hv hl => ?_
    obtain ⟨l1, l2⟩ := liveC_iff.1 hl
    rw [Bool.eq_false_iff]
    intro q
    rcases orR_iff.1 q with c | c
    · rw [hR v hv l1] at c; cases c
    · exact l2 c
theorem dr_one {n : Nat} : ∀ (m : Nat) {live R : Nat → Bool} {es : List Arc} {r : Nat}, es.length = m → Tr n live es → Dead n live R → live r = true → r < n → (∀ v, v < n → live v = true → (R v = true ↔ v = r)) → Dr n es R = 1
  | 0, live, R, es, r, hm, h, hD, hr, hrn, hR => by
    refine Dr_all fun v hv => ?_
    cases e : live v with
    | false => exact hD v hv e
    | true =>
      refine (hR v hv e).2 ?_
      rcases Decidable.em (v = r) with q | q
      · exact q
      · obtain rfl : es = [] := List.eq_nil_of_length_eq_zero hm
        have := lk_nil (h.con v r hv hrn e hr)
        omega
  | m + 1, live, R, es, r, hm, h, hD, hr, hrn, hR => by
    obtain ⟨f, fn, hf⟩ := h.leaf (by omega)
    obtain ⟨pre, a, post, k, rfl, hL⟩ := h.find hf
    have hl2 : (pre ++ post).length = m := by rw [List.length_append, List.length_cons] at hm; rw [List.length_append]; omega
    have hfk := hL.fk
    by_cases e : f = r
    · subst e
      have hk : ¬ R k = true := fun q => hfk ((hR k hL.kn hL.lk).1 q).symm
      have g1 : Dr n (pre ++ post) R = 0 := dr_none m hl2 hL.tr fun v hv hl => by
        obtain ⟨l1, l2⟩ := liveC_iff.1 (show liveC live f v = true from hl)
        rw [Bool.eq_false_iff]
        exact fun q => l2 ((hR v hv l1).1 q)
      have g2 : Dr n (pre ++ post) (orR R k) = 1 := dr_one m (r := k) hl2 hL.tr (fun v hv hl => by
        by_cases q : v = f
        · exact orR_iff.2 (.inl ((hR v hv (by rw [q]; exact hL.lf)).2 q))
        · refine orR_iff.2 (.inl (hD v hv ?_))
          cases e2 : live v with
          | false => rfl
          | true => exact absurd (liveC_iff.2 ⟨e2, q⟩) (by rw [show liveC live f v = false from hl]; decide)) (liveC_iff.2 ⟨hL.lk, Ne.symm hfk⟩) hL.kn (fun v hv hl => by
        obtain ⟨l1, l2⟩ := liveC_iff.1 (show liveC live f v = true from hl)
        rw [orR_iff, hR v hv l1]
        exact ⟨fun q => q.resolve_left l2, .inr⟩)
      rw [Dr_root hL ((hR f fn hL.lf).2 rfl), if_neg hk, g1, g2]; rfl
    · have hf0 : R f = false := by rw [Bool.eq_false_iff]; exact fun q => e ((hR f fn hL.lf).1 q)
      rw [Dr_leaf hL hf0]
      refine dr_one m (r := r) hl2 hL.tr (fun v hv hl => ?_) (liveC_iff.2 ⟨hr, Ne.symm e⟩) hrn (fun v hv hl => ?_)
      · by_cases q : v = f
        · exact orR_iff.2 (.inr q)
        · refine orR_iff.2 (.inl (hD v hv ?_))
          cases e2 : live v with
          | false => rfl
          | true => exact absurd (liveC_iff.2 ⟨e2, q⟩) (by rw [show liveC live f v = false from hl]; decide)
      · obtain ⟨l1, l2⟩ := liveC_iff.1 hl
        rw [orR_iff, hR v hv l1]
        exact ⟨fun q => q.resolve_right l2, .inl⟩
structure DistC (es : List Arc) (s t : Int) (d : Nat) : Prop where
  way : wk (bothA es) d s t = true
  pot : ∃ p : Int → Int, p s = 0 ∧ p t = d ∧ ∀ a ∈ es, -1 ≤ p a.src - p a.dst ∧ p a.src - p a.dst ≤ 1
theorem DistC.symm {es : List Arc} {s t : Int} {d : Nat} (h : DistC es s t d) : DistC es t s d := by
  obtain ⟨p, p1, p2, p3⟩ := h.pot
  exact ⟨wk_rev h.way, fun x => d - p x, by show (d : Int) - p t = 0; omega, by show (d : Int) - p s = d; omega, fun a ha => by have := p3 a ha; show -1 ≤ ((d : Int) - p a.src) - (d - p a.dst) ∧ ((d : Int) - p a.src) - (d - p a.dst) ≤ 1; omega⟩
theorem wk_more {es fs : List Arc} (h : ∀ a ∈ es, a ∈ fs) : ∀ {k : Nat} {u v : Int}, wk es k u v = true → wk fs k u v = true
  | 0, u, v, hw => wk_zero.2 (wk_zero.1 hw)
  | k + 1, u, v, hw => by
    obtain ⟨a, ha, e, h2⟩ := wk_succ.1 hw
    exact wk_succ.2 ⟨a, h a ha, e, wk_more h h2⟩
theorem both_more {es fs : List Arc} (h : ∀ a ∈ es, a ∈ fs) : ∀ a ∈ bothA es, a ∈ bothA fs := fun a ha => by
  rcases mem_both.1 ha with q | ⟨b, q, e⟩
  · exact mem_both.2 (.inl (h a q))
  · exact mem_both.2 (.inr ⟨b, h b q, e⟩)
theorem mid_more (pre post : List Arc) (a : Arc) : ∀ b ∈ pre ++ post, b ∈ pre ++ a :: post := fun b hb => by
  rw [List.mem_append] at hb
  rw [List.mem_append, List.mem_cons]
  rcases hb with q | q
  · exact .inl q
  · exact .inr (.inr q)
theorem LeafAt.off {n : Nat} {live : Nat → Bool} {pre post : List Arc} {a : Arc} {f k : Nat} (h : LeafAt n live pre a post f k) : ∀ b ∈ pre ++ post, b.src ≠ (f : Int) ∧ b.dst ≠ (f : Int) := deg_none h.dead
theorem LeafAt.step {n : Nat} {live : Nat → Bool} {pre post : List Arc} {a : Arc} {f k : Nat} (h : LeafAt n live pre a post f k) : wk (bothA (pre ++ a :: post)) 1 f k = true := by
  rcases h.en with ⟨e1, e2⟩ | ⟨e1, e2⟩
  · rw [← e1, ← e2]; exact wk_one (mem_both.2 (.inl (by simp)))
  · have := wk_one (es := bothA (pre ++ a :: post)) (a := a) (mem_both.2 (.inl (by simp)))
    rw [e1, e2] at this
    exact wk_rev this
theorem LeafAt.near {n : Nat} {live : Nat → Bool} {pre post : List Arc} {a : Arc} {f k : Nat} (h : LeafAt n live pre a post f k) {t : Nat} {d : Nat} (htf : t ≠ f) (hd : DistC (pre ++ post) k t d) : DistC (pre ++ a :: post) f t (1 + d) := by
  obtain ⟨p, p1, p2, p3⟩ := hd.pot
  have hfk := h.fk
  refine ⟨wk_cat (wk_more (both_more (mid_more pre post a)) hd.way) h.step, fun x => if x = (f : Int) then 0 else p x + 1, by simp, ?_, fun b hb => ?_⟩
  · show (if (t : Int) = (f : Int) then 0 else p t + 1) = _
    rw [if_neg (by omega), p2]; omega
  · rw [List.mem_append, List.mem_cons] at hb
    have hmid : b ∈ pre ++ post ∨ b = a := by
      rcases hb with q | q | q
      · exact .inl (List.mem_append.2 (.inl q))
      · exact .inr q
      · exact .inl (List.mem_append.2 (.inr q))
    show -1 ≤ (if b.src = (f : Int) then 0 else p b.src + 1) - (if b.dst = (f : Int) then 0 else p b.dst + 1) ∧ (if b.src = (f : Int) then 0 else p b.src + 1) - (if b.dst = (f : Int) then 0 else p b.dst + 1) ≤ 1
    rcases hmid with q | rfl
    · obtain ⟨n1, n2⟩ := h.off b q
      have := p3 b q
      rw [if_neg n1, if_neg n2]; omega
    · rcases h.en with ⟨e1, e2⟩ | ⟨e1, e2⟩
      · rw [if_pos e1, if_neg (by omega), e2, p1]; omega
      · rw [if_neg (by omega), if_pos e2, e1, p1]; omega
theorem LeafAt.far {n : Nat} {live : Nat → Bool} {pre post : List Arc} {a : Arc} {f k : Nat} (h : LeafAt n live pre a post f k) {s t : Nat} {d : Nat} (hsf : s ≠ f) (htf : t ≠ f) (hd : DistC (pre ++ post) s t d) : DistC (pre ++ a :: post) s t d := by
  obtain ⟨p, p1, p2, p3⟩ := hd.pot
  have hfk := h.fk
  refine ⟨wk_more (both_more (mid_more pre post a)) hd.way, fun x => if x = (f : Int) then p k else p x, ?_, ?_, fun b hb => ?_⟩
  · show (if (s : Int) = (f : Int) then p k else p s) = _
    rw [if_neg (by omega), p1]
  · show (if (t : Int) = (f : Int) then p k else p t) = _
    rw [if_neg (by omega), p2]
  · rw [List.mem_append, List.mem_cons] at hb
    have hmid : b ∈ pre ++ post ∨ b = a := by
      rcases hb with q | q | q
      · exact .inl (List.mem_append.2 (.inl q))
      · exact .inr q
      · exact .inl (List.mem_append.2 (.inr q))
    show -1 ≤ (if b.src = (f : Int) then p k else p b.src) - (if b.dst = (f : Int) then p k else p b.dst) ∧ (if b.src = (f : Int) then p k else p b.src) - (if b.dst = (f : Int) then p k else p b.dst) ≤ 1
    rcases hmid with q | rfl
    · obtain ⟨n1, n2⟩ := h.off b q
      have := p3 b q
      rw [if_neg n1, if_neg n2]; omega
    · rcases h.en with ⟨e1, e2⟩ | ⟨e1, e2⟩
      · rw [if_pos e1, if_neg (by omega), e2]; omega
      · rw [if_neg (by omega), if_pos e2, e1]; omega
theorem DistC.zero {es : List Arc} {s : Int} : DistC es s s 0 := ⟨wk_zero.2 rfl, fun _ => 0, rfl, rfl, fun _ _ => by show (-1 : Int) ≤ 0 - 0 ∧ (0 : Int) - 0 ≤ 1; omega⟩
def Two (n : Nat) (live R : Nat → Bool) (s t : Nat) : Prop := s < n ∧ t < n ∧ s ≠ t ∧ live s = true ∧ live t = true ∧ Dead n live R ∧ ∀ v, v < n → live v = true → (R v = true ↔ v = s ∨ v = t)
theorem Two.symm {n : Nat} {live R : Nat → Bool} {s t : Nat} (h : Two n live R s t) : Two n live R t s := by
  obtain ⟨h1, h2, h3, h4, h5, h6, h7⟩ := h
  exact ⟨h2, h1, Ne.symm h3, h5, h4, h6, fun v hv hl => (h7 v hv hl).trans ⟨Or.symm, Or.symm⟩⟩
theorem dead_cut {n : Nat} {live R : Nat → Bool} {f : Nat} (hD : Dead n live R) {R' : Nat → Bool} (h : ∀ v, R v = true → R' v = true) (hf : R' f = true) : Dead n (liveC live f) R' := fun v hv hl => by
  by_cases q : v = f
  · rw [q]; exact hf
  · refine h v (hD v hv ?_)
    cases e2 : live v with
    | false => rfl
    | true => exact absurd (liveC_iff.2 ⟨e2, q⟩) (by rw [hl]; decide)
theorem two_leaf {n m : Nat} (ih : ∀ {live R : Nat → Bool} {es : List Arc} {s t : Nat}, es.length = m → Tr n live es → Two n live R s t → ∃ d : Nat, Dr n es R = d ∧ DistC es s t d) {live R : Nat → Bool} {pre post : List Arc} {a : Arc} {f k t : Nat} (hm : (pre ++ post).length = m)
    (hL : LeafAt n live pre a post f k) (h : Two n live R f t) : ∃ d : Nat, Dr n (pre ++ a :: post) R = d ∧ DistC (pre ++ a :: post) f t d := by
  obtain ⟨h1, h2, h3, h4, h5, h6, h7⟩ := h
  have hfk := hL.fk
  have hRf := (h7 f h1 h4).2 (.inl rfl)
  have hone : Dr n (pre ++ post) R = 1 := dr_one m (r := t) hm hL.tr (dead_cut h6 (fun _ q => q) hRf) (liveC_iff.2 ⟨h5, Ne.symm h3⟩) h2 (fun v hv hl => by
    obtain ⟨l1, l2⟩ := liveC_iff.1 hl
    rw [h7 v hv l1]
    exact ⟨fun q => q.resolve_left l2, .inr⟩)
  rw [Dr_root hL hRf]
  by_cases e : k = t
  · subst e
    rw [if_pos ((h7 k hL.kn hL.lk).2 (.inr rfl)), hone]
    exact ⟨1, rfl, hL.near (Ne.symm h3) .zero⟩
  · have hk : ¬ R k = true := fun q => by
      rcases (h7 k hL.kn hL.lk).1 q with c | c
      · exact hfk c.symm
      · exact e c
    rw [if_neg hk, hone]
    obtain ⟨d, d1, d2⟩ := ih (R := orR R k) (s := k) (t := t) hm hL.tr ⟨hL.kn, h2, e, liveC_iff.2 ⟨hL.lk, Ne.symm hfk⟩, liveC_iff.2 ⟨h5, Ne.symm h3⟩, dead_cut h6 (fun _ q => orR_iff.2 (.inl q)) (orR_iff.2 (.inl hRf)), fun v hv hl => by
      obtain ⟨l1, l2⟩ := liveC_iff.1 hl
      rw [orR_iff, h7 v hv l1]
      constructor
      · rintro ((q | q) | q)
        · exact absurd q l2
        · exact .inr q
        · exact .inl q
      · rintro (q | q)
        · exact .inr q
        · exact .inl (.inr q)⟩
    exact ⟨1 + d, by rw [d1]; omega, hL.near (Ne.symm h3) d2⟩
theorem dr_two {n : Nat} : ∀ (m : Nat) {live R : Nat → Bool} {es : List Arc} {s t : Nat}, es.length = m → Tr n live es → Two n live R s t → ∃ d : Nat, Dr n es R = d ∧ DistC es s t d
  | 0, live, R, es, s, t, hm, h, hT => by
    obtain rfl : es = [] := List.eq_nil_of_length_eq_zero hm
    obtain ⟨h1, h2, h3, h4, h5, _⟩ := hT
    have := lk_nil (h.con s t h1 h2 h4 h5)
    omega
  | m + 1, live, R, es, s, t, hm, h, hT => by
    obtain ⟨f, fn, hf⟩ := h.leaf (by omega)
    obtain ⟨pre, a, post, k, rfl, hL⟩ := h.find hf
    have hl2 : (pre ++ post).length = m := by rw [List.length_append, List.length_cons] at hm; rw [List.length_append]; omega
    by_cases e1 : f = s
    · subst e1
      exact two_leaf (fun q1 q2 q3 => dr_two m q1 q2 q3) hl2 hL hT
    · by_cases e2 : f = t
      · subst e2
        obtain ⟨d, d1, d2⟩ := two_leaf (fun q1 q2 q3 => dr_two m q1 q2 q3) hl2 hL hT.symm
        exact ⟨d, d1, d2.symm⟩
      · obtain ⟨h1, h2, h3, h4, h5, h6, h7⟩ := hT
        have hf0 : R f = false := by
          rw [Bool.eq_false_iff]
          intro q
          rcases (h7 f fn hL.lf).1 q with c | c
          · exact e1 c
          · exact e2 c
        rw [Dr_leaf hL hf0]
        obtain ⟨d, d1, d2⟩ := dr_two m (R := orR R f) (s := s) (t := t) hl2 hL.tr ⟨h1, h2, h3, liveC_iff.2 ⟨h4, Ne.symm e1⟩, liveC_iff.2 ⟨h5, Ne.symm e2⟩, dead_cut h6 (fun _ q => orR_iff.2 (.inl q)) (orR_iff.2 (.inr rfl)), fun v hv hl => by
          obtain ⟨l1, l2⟩ := liveC_iff.1 hl
          rw [orR_iff, h7 v hv l1]
          exact ⟨fun q => q.resolve_right l2, .inl⟩⟩
        exact ⟨d, d1, hL.far (Ne.symm e1) (Ne.symm e2) d2⟩
theorem Dr_single {n : Nat} {es : List Arc} {r : Nat} (R : Nat → Bool) (h : ∀ v, v < n → (R v = true ↔ v = r)) : Dr n es R = det n (setR (lap es) r (unit r)) := det_congr fun i j hi _ => by
  unfold rt
  by_cases q : i = r
  · subst q; rw [if_pos ((h i hi).2 rfl), setR_at]
  · rw [if_neg (fun c => q ((h i hi).1 c)), setR_ne q]
def isR (r : Nat) : Nat → Bool := fun v => decide (v = r)
theorem Dr_any {n : Nat} {es : List Arc} (hA : InN n es) {r s : Nat} (hr : r < n) (hs : s < n) : Dr n es (isR r) = Dr n es (isR s) := by
  by_cases e : r = s
  · rw [e]
  rw [Dr_single (r := r) (isR r) (fun v _ => decide_eq_true_iff), Dr_single (r := s) (isR s) (fun v _ => decide_eq_true_iff)]
  rw [cof_row2 (A := lap es) (fun j hj => by rw [← lap_row hA j]; exact sum_congr fun i _ => lap_symm _ _ _) hr hs e (unit r)]
  exact cof_col (fun i _ => lap_row hA i) hs hr hs
theorem cnt_Dr {m : Nat} {es : List Arc} {n : Int} (hm : (m : Int) = n - 1) : cntVal n es = Dr (m + 1) es (isR m) := by
  rw [Dr_single (r := m) (isR m) (fun v _ => decide_eq_true_iff), det_unit_last]
  unfold cntVal
  rw [show (n - 1).toNat = m by omega]
theorem tree_one {n : Int} {es : List Arc} (h1 : 1 ≤ n) (h : Tr n.toNat (fun _ => true) es) : cntVal n es = 1 := by
  obtain ⟨m, hm⟩ : ∃ m : Nat, n.toNat = m + 1 := ⟨n.toNat - 1, by omega⟩
  rw [cnt_Dr (m := m) (by omega)]
  rw [hm] at h
  exact dr_one _ (r := m) rfl h (fun v _ q => by cases q) rfl (by omega) (fun v _ _ => decide_eq_true_iff)
theorem ev_loop {a : Arc} (h : a.src = a.dst) (i : Nat) : ev a i = 0 := by unfold ev; rw [h]; omega
theorem tree_more {n : Int} {es : List Arc} (h1 : 1 ≤ n) (h : Tr n.toNat (fun _ => true) es) {s t c : Int} (hs0 : 0 ≤ s) (hs1 : s < n) (ht0 : 0 ≤ t) (ht1 : t < n) :
    (s = t ∧ cntVal n (es ++ [⟨s, t, c⟩]) = 1) ∨ (s ≠ t ∧ ∃ d : Nat, cntVal n (es ++ [⟨s, t, c⟩]) = d + 1 ∧ DistC es s t d) := by
  obtain ⟨m, hm⟩ : ∃ m : Nat, n.toNat = m + 1 := ⟨n.toNat - 1, by omega⟩
  have hone := tree_one h1 h
  rw [hm] at h
  by_cases e : s = t
  · refine .inl ⟨e, ?_⟩
    rw [← hone]
    unfold cntVal
    exact det_congr fun i j _ _ => by rw [lap_snoc, ev_loop (by exact e)]; simp
  · refine .inr ⟨e, ?_⟩
    obtain ⟨u, rfl⟩ : ∃ u : Nat, s = u := ⟨s.toNat, by omega⟩
    obtain ⟨v, rfl⟩ : ∃ v : Nat, t = v := ⟨t.toNat, by omega⟩
    have hun : u < m + 1 := by omega
    have hvn : v < m + 1 := by omega
    have huv : u ≠ v := by omega
    have hA : InN (m + 1) (es ++ [⟨(u : Int), (v : Int), c⟩]) := fun a ha => by
      rw [List.mem_append, List.mem_singleton] at ha
      rcases ha with q | rfl
      · exact h.inN a q
      · show 0 ≤ (u : Int) ∧ (u : Int) < _ ∧ 0 ≤ (v : Int) ∧ (v : Int) < _; omega
    rw [cnt_Dr (m := m) (by omega), Dr_any hA (show m < m + 1 by omega) hun]
    obtain ⟨d, d1, d2⟩ := dr_two _ (R := orR (isR u) v) (s := u) (t := v) rfl h ⟨hun, hvn, huv, rfl, rfl, fun w _ q => (by cases q), fun w _ _ => by rw [orR_iff]; exact or_congr decide_eq_true_iff Iff.rfl⟩
    refine ⟨d, ?_, d2⟩
    have hev : ∀ i j, ev ⟨(u : Int), (v : Int), c⟩ i * ev ⟨(u : Int), (v : Int), c⟩ j = (unit u i - unit v i) * (unit u j - unit v j) := fun i j => ev_ends (.inl ⟨rfl, rfl⟩) i j
    have hRv : ¬ isR u v = true := fun q => huv (of_decide_eq_true q).symm
    have hRu : isR u u = true := decide_eq_true rfl
    have g1 : Dr (m + 1) (es ++ [⟨(u : Int), (v : Int), c⟩]) (isR u) = det (m + 1) (setR (rt (isR u) es) v fun j => 1 * lap es v j + 1 * unit v j) := by
      unfold Dr
      rw [← det_addrow (A := rt (isR u) (es ++ [(⟨(u : Int), (v : Int), c⟩ : Arc)])) hvn hun (Ne.symm huv) 1]
      refine det_congr fun i j hi hj => ?_
      by_cases ek : i = v
      · subst ek
        rw [setR_at, setR_at]
        unfold rt
        rw [if_neg hRv, if_pos hRu, lap_snoc, hev, unit_self, unit_ne (Ne.symm huv)]; omega
      · rw [setR_ne ek, setR_ne ek]
        unfold rt
        by_cases q : isR u i = true
        · rw [if_pos q, if_pos q]
        · have hif : i ≠ u := fun e2 => q (decide_eq_true e2)
          rw [if_neg q, if_neg q, lap_snoc, hev, unit_ne hif, unit_ne ek]; simp
    rw [g1, det_lin 1 1 (lap es v) (unit v) hvn]
    have g2 : setR (rt (isR u) es) v (lap es v) = rt (isR u) es := by
      rw [show lap es v = rt (isR u) es v from funext fun j => by unfold rt; rw [if_neg hRv], setR_self]
    have g3 : det (m + 1) (setR (rt (isR u) es) v (unit v)) = Dr (m + 1) es (orR (isR u) v) := det_congr fun i j _ _ => by
      by_cases ek : i = v
      · subst ek; rw [setR_at]; unfold rt; rw [if_pos (orR_iff.2 (.inr rfl))]
      · rw [setR_ne ek]
        unfold rt
        by_cases q : isR u i = true
        · rw [if_pos q, if_pos (orR_iff.2 (.inl q))]
        · rw [if_neg q, if_neg (fun q2 => by rcases orR_iff.1 q2 with c | c; exact q c; exact ek c)]
    have g4 : det (m + 1) (rt (isR u) es) = 1 := dr_one _ (r := u) rfl h (fun w _ q => by cases q) rfl hun (fun w _ _ => decide_eq_true_iff)
    rw [g2, g3, g4, d1]; omega
end Go.Ab
