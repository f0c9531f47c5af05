/- Of trees: a leaf, and what is left without it. -/
import Derived.Test.YtakfbagokponeaaPlLap
import Derived.Test.YtakfbagokponeaaPlTree2
import Derived.Test.YtakfbagokponeaaPlSpan
namespace Go.Ab
def nodesN (n : Nat) (live : Nat → Bool) : Nat := (List.range n).countP live
theorem nodes_sum (n : Nat) (live : Nat → Bool) : nodesN n live = sumN n fun v => if live v = true then 1 else 0 := by
  induction n with
  | zero => rfl
  | succ n ih => unfold nodesN at ih ⊢; rw [List.range_succ, List.countP_append, sumN, ih, List.countP_singleton]
/-- All nodes that live are joined by arcs among them, one fewer than they are. -/
structure Tr (n : Nat) (live : Nat → Bool) (es : List Arc) : Prop where
  in_ : ∀ a ∈ es, ∃ u v : Nat, a.src = u ∧ a.dst = v ∧ u < n ∧ v < n ∧ live u = true ∧ live v = true
  len : es.length + 1 = nodesN n live
  con : ∀ u v : Nat, u < n → v < n → live u = true → live v = true → Lk es u v
theorem Tr.inN {n : Nat} {live : Nat → Bool} {es : List Arc} (h : Tr n live es) : InN n es := fun a ha => by
  obtain ⟨u, v, h1, h2, h3, h4, _⟩ := h.in_ a ha
  omega
theorem lk_iso {es : List Arc} {f : Int} (h : ∀ a ∈ es, a.src = f ↔ a.dst = f) {u v : Int} (hl : Lk es u v) : u = f ↔ v = f := by
  induction hl with
  | refl u => exact Iff.rfl
  | symm _ ih => exact ih.symm
  | trans _ _ h1 h2 => exact h1.trans h2
  | arc ha => exact h _ ha
theorem deg_none {es : List Arc} {v : Int} (h : degT es v = 0) : ∀ a ∈ es, a.src ≠ v ∧ a.dst ≠ v := fun a ha => by
  have h1 := List.countP_eq_zero.1 h a ha
  unfold touch at h1
  rw [Bool.or_eq_true, decide_eq_true_eq, decide_eq_true_eq] at h1
  exact ⟨fun q => h1 (.inl q), fun q => h1 (.inr q)⟩
theorem inj_id (n : Nat) : Inj n fun i => i := fun _ _ _ _ e => e
theorem deg_sum (n : Nat) : ∀ es : List Arc, sumN n (fun v => degT es v) ≤ 2 * es.length
  | [] => by
    have h0 : ∀ k, sumN k (fun v => degT [] v) = 0 := fun k => by induction k with
      | zero => rfl
      | succ k ih => rw [sumN, ih]; rfl
    rw [h0]; exact Nat.zero_le _
  | a :: r => by
    have h1 := hit_le (σ := fun i => i) a.src (Nat.le_refl n) (inj_id n)
    have h2 := hit_le (σ := fun i => i) a.dst (Nat.le_refl n) (inj_id n)
    have h3 : sumN n (fun v => degT (a :: r) v) ≤ sumN n fun v => degT r v + ((if a.src = (v : Int) then 1 else 0) + (if a.dst = (v : Int) then 1 else 0)) := sumN_le fun v _ => by
      rw [degT_cons]
      unfold touch
      by_cases q1 : a.src = (v : Int) <;> by_cases q2 : a.dst = (v : Int) <;> simp [q1, q2]
    rw [sumN_add, sumN_add] at h3
    have := deg_sum n r
    rw [List.length_cons]
    omega
theorem sumN_lt_ex {f g : Nat → Nat} : ∀ {n : Nat}, sumN n f < sumN n g → ∃ v, v < n ∧ f v < g v
  | 0, h => by cases h
  | n + 1, h => by
    rw [sumN, sumN] at h
    rcases Nat.lt_or_ge (f n) (g n) with q | q
    · exact ⟨n, by omega, q⟩
    · obtain ⟨v, h1, h2⟩ := sumN_lt_ex (f := f) (g := g) (n := n) (by omega)
      exact ⟨v, by omega, h2⟩
theorem nodes_two {n : Nat} {live : Nat → Bool} (h : 2 ≤ nodesN n live) (f : Nat) : ∃ u, u < n ∧ live u = true ∧ u ≠ f := by
  rw [nodes_sum] at h
  have h1 : sumN n (fun v => if f = v then 1 else 0) ≤ 1 := by
    have := hit_le (σ := fun i => i) (f : Int) (Nat.le_refl n) (inj_id n)
    have e : sumN n (fun v => if f = v then 1 else 0) = sumN n (fun v => if (f : Int) = (v : Int) then 1 else 0) := sumN_congr fun v _ => by
      by_cases q : f = v
      · rw [if_pos q, if_pos (by omega)]
      · rw [if_neg q, if_neg (by omega)]
    rw [e]; exact this
  obtain ⟨u, h2, h3⟩ := sumN_lt_ex (f := fun v => if f = v then 1 else 0) (g := fun v => if live v = true then 1 else 0) (n := n) (by omega)
  by_cases q : f = u
  · rw [if_pos q] at h3; split at h3 <;> omega
  · rw [if_neg q] at h3
    refine ⟨u, h2, ?_, fun e => q e.symm⟩
    cases e : live u
    · rw [e] at h3; simp at h3
    · rfl
theorem Tr.deg_pos {n : Nat} {live : Nat → Bool} {es : List Arc} (h : Tr n live es) (he : 0 < es.length) {v : Nat} (hv : v < n) (hl : live v = true) : 0 < degT es v := by
  rcases Nat.eq_zero_or_pos (degT es v) with q | q
  · obtain ⟨u, h1, h2, h3⟩ := nodes_two (n := n) (live := live) (by have := h.len; omega) v
    have h4 := deg_none q
    have h5 := (lk_iso (f := (v : Int)) (fun a ha => ⟨fun e => absurd e (h4 a ha).1, fun e => absurd e (h4 a ha).2⟩) (h.con v u hv h1 hl h2)).1 rfl
    omega
  · exact q
theorem Tr.leaf {n : Nat} {live : Nat → Bool} {es : List Arc} (h : Tr n live es) (he : 0 < es.length) : ∃ f, f < n ∧ degT es f = 1 := by
  have h1 := deg_sum n es
  have h2 := h.len
  rw [nodes_sum] at h2
  have h3 : sumN n (fun v => 2 * if live v = true then 1 else 0) = 2 * sumN n (fun v => if live v = true then 1 else 0) := sumN_mul _ _ _
  obtain ⟨f, g1, g2⟩ := sumN_lt_ex (f := fun v => degT es v) (g := fun v => 2 * if live v = true then 1 else 0) (n := n) (by omega)
  refine ⟨f, g1, ?_⟩
  have hl : live f = true := by
    cases e : live f
    · rw [e] at g2; simp at g2
    · rfl
  have := h.deg_pos he g1 hl
  rw [if_pos hl] at g2
  omega
/-- The arc at a node where just one stands. -/
theorem deg_one {es : List Arc} {f : Int} (h : degT es f = 1) : ∃ pre a post, es = pre ++ a :: post ∧ touch a f = true ∧ degT pre f = 0 ∧ degT post f = 0 := by
  have h1 : 0 < es.countP fun a => touch a f := by unfold degT at h; omega
  obtain ⟨a, ha, ht⟩ := List.countP_pos_iff.1 h1
  obtain ⟨pre, post, rfl⟩ := List.append_of_mem ha
  unfold degT at h ⊢
  rw [List.countP_append, List.countP_cons, if_pos ht] at h
  exact ⟨pre, a, post, rfl, ht, by omega, by omega⟩
theorem deg_app (es fs : List Arc) (v : Int) : degT (es ++ fs) v = degT es v + degT fs v := by unfold degT; exact List.countP_append
theorem adj_app (es fs : List Arc) (v u : Nat) : adjT (es ++ fs) v u = (adjT es v u || adjT fs v u) := by unfold adjT; exact List.any_append
/-- An arc between two nodes, whichever way. -/
def ends (a : Arc) (f k : Int) : Prop := (a.src = f ∧ a.dst = k) ∨ (a.src = k ∧ a.dst = f)
structure LeafAt (n : Nat) (live : Nat → Bool) (pre : List Arc) (a : Arc) (post : List Arc) (f k : Nat) : Prop where
  fn : f < n
  kn : k < n
  fk : f ≠ k
  lf : live f = true
  lk : live k = true
  en : ends a f k
  dpre : degT pre f = 0
  dpost : degT post f = 0
  tr : Tr n (fun v => live v && !decide (v = f)) (pre ++ post)
theorem Tr.cut {n : Nat} {live : Nat → Bool} {pre post : List Arc} {a : Arc} (h : Tr n live (pre ++ a :: post)) {f : Nat} (ht : touch a f = true) (h1 : degT pre f = 0) (h2 : degT post f = 0) : ∃ k, LeafAt n live pre a post f k := by
  have hlen := h.len
  rw [List.length_append, List.length_cons] at hlen
  obtain ⟨u, v, hu, hv, un, vn, lu, lv⟩ := h.in_ a (by simp)
  unfold touch at ht
  rw [Bool.or_eq_true, decide_eq_true_eq, decide_eq_true_eq] at ht
  have hp := deg_none h1
  have hq := deg_none h2
  have hex : ∃ k, k < n ∧ live k = true ∧ ends a f k ∧ f < n ∧ live f = true := by
    rcases ht with e | e
    · have : f = u := by omega
      subst this
      exact ⟨v, vn, lv, .inl ⟨hu, hv⟩, un, lu⟩
    · have : f = v := by omega
      subst this
      exact ⟨u, un, lu, .inr ⟨hu, hv⟩, vn, lv⟩
  obtain ⟨k, kn, lk, he, fn, lf⟩ := hex
  have hfk : f ≠ k := fun q => by
    subst q
    obtain ⟨w, w1, w2, w3⟩ := nodes_two (n := n) (live := live) (by omega) f
    have hb : ∀ b ∈ pre ++ a :: post, b.src = (f : Int) ↔ b.dst = (f : Int) := fun b hb => by
      rw [List.mem_append, List.mem_cons] at hb
      rcases hb with hb | rfl | hb
      · exact ⟨fun e => absurd e (hp b hb).1, fun e => absurd e (hp b hb).2⟩
      · rcases he with ⟨e1, e2⟩ | ⟨e1, e2⟩ <;> exact ⟨fun _ => e2, fun _ => e1⟩
      · exact ⟨fun e => absurd e (hq b hb).1, fun e => absurd e (hq b hb).2⟩
    have := (lk_iso hb (h.con f w fn w1 lf w2)).1 rfl
    omega
  refine ⟨k, fn, kn, hfk, lf, lk, he, h1, h2, fun b hb => ?_, ?_, ?_⟩
  · rw [List.mem_append] at hb
    obtain ⟨x, y, b1, b2, b3, b4, b5, b6⟩ := h.in_ b (by rw [List.mem_append, List.mem_cons]; rcases hb with hb | hb; exact .inl hb; exact .inr (.inr hb))
    have hn : b.src ≠ (f : Int) ∧ b.dst ≠ (f : Int) := by rcases hb with hb | hb; exact hp b hb; exact hq b hb
    refine ⟨x, y, b1, b2, b3, b4, ?_, ?_⟩
    · rw [b5, decide_eq_false (by omega)]; rfl
    · rw [b6, decide_eq_false (by omega)]; rfl
  · rw [List.length_append]
    have e1 : nodesN n live = nodesN n (fun v => live v && !decide (v = f)) + 1 := by
      rw [nodes_sum, nodes_sum]
      have e2 : sumN n (fun v => if live v = true then 1 else 0) = sumN n (fun v => (if (live v && !decide (v = f)) = true then 1 else 0) + if f = v then 1 else 0) := sumN_congr fun v _ => by
        by_cases q : v = f
        · subst q; simp [lf]
        · have q2 : ¬ f = v := fun e => q e.symm
          simp [q, q2]
      rw [e2, sumN_add]
      have e3 : ∀ m, f < m → sumN m (fun v => if f = v then 1 else 0) = 1 := fun m => by
        induction m with
        | zero => intro q; omega
        | succ m ih =>
          intro q
          rw [sumN]
          by_cases e : f = m
          · rw [if_pos e]
            have : sumN m (fun v => if f = v then 1 else 0) = sumN m (fun _ => 0) := sumN_congr fun v hv => if_neg (by omega)
            rw [this]
            have h0 : ∀ k, sumN k (fun _ => 0) = 0 := fun k => by induction k with
              | zero => rfl
              | succ k ih => rw [sumN, ih]
            rw [h0]
          · rw [if_neg e, ih (by omega)]
      rw [e3 n fn]
    omega
  · have hstep : ∀ x y : Int, Lk (pre ++ a :: post) x y → Lk (pre ++ post) (if x = f then (k : Int) else x) (if y = f then (k : Int) else y) := fun x y hl => by
      induction hl with
      | refl u => exact .refl _
      | symm _ ih => exact .symm ih
      | trans _ _ g1 g2 => exact .trans g1 g2
      | @arc b hb =>
        rw [List.mem_append, List.mem_cons] at hb
        rcases hb with hb | rfl | hb
        · rw [if_neg (hp b hb).1, if_neg (hp b hb).2]
          exact .arc (List.mem_append.2 (.inl hb))
        · rcases he with ⟨e1, e2⟩ | ⟨e1, e2⟩
          · rw [if_pos e1, e2, if_neg (by omega)]; exact .refl _
          · rw [if_pos e2, e1, if_neg (by omega)]; exact .refl _
        · rw [if_neg (hq b hb).1, if_neg (hq b hb).2]
          exact .arc (List.mem_append.2 (.inr hb))
    intro x y hx hy lx ly
    simp only [Bool.and_eq_true, Bool.not_eq_true', decide_eq_false_iff_not] at lx ly
    have := hstep x y (h.con x y hx hy lx.1 ly.1)
    rwa [if_neg (by omega), if_neg (by omega)] at this
theorem Tr.find {n : Nat} {live : Nat → Bool} {es : List Arc} (h : Tr n live es) {f : Nat} (hf : degT es f = 1) : ∃ pre a post k, es = pre ++ a :: post ∧ LeafAt n live pre a post f k := by
  obtain ⟨pre, a, post, rfl, ht, h1, h2⟩ := deg_one hf
  obtain ⟨k, hk⟩ := h.cut ht h1 h2
  exact ⟨pre, a, post, k, rfl, hk⟩
theorem adj_none0 {es : List Arc} {f : Nat} (h : degT es f = 0) (u : Nat) : adjT es f u = false := adj_none h u
theorem LeafAt.adj {n : Nat} {live : Nat → Bool} {pre post : List Arc} {a : Arc} {f k : Nat} (h : LeafAt n live pre a post f k) (v u : Nat) :
    adjT (pre ++ a :: post) v u = (((decide (v = f) && decide (u = k)) || (decide (v = k) && decide (u = f))) || adjT (pre ++ post) v u) := by
  rw [adj_app, adj_cons, adj_app]
  have e : ((decide (a.src = (v : Int)) && decide (a.dst = (u : Int))) || (decide (a.dst = (v : Int)) && decide (a.src = (u : Int)))) = ((decide (v = f) && decide (u = k)) || (decide (v = k) && decide (u = f))) := by
    rw [Bool.eq_iff_iff]
    simp only [Bool.or_eq_true, Bool.and_eq_true, decide_eq_true_eq]
    rcases h.en with ⟨e1, e2⟩ | ⟨e1, e2⟩ <;> omega
  rw [e]
  cases adjT pre v u <;> cases ((decide (v = f) && decide (u = k)) || (decide (v = k) && decide (u = f))) <;> simp
theorem LeafAt.deg {n : Nat} {live : Nat → Bool} {pre post : List Arc} {a : Arc} {f k : Nat} (h : LeafAt n live pre a post f k) (v : Nat) :
    degT (pre ++ a :: post) v = degT (pre ++ post) v + if v = f ∨ v = k then 1 else 0 := by
  rw [deg_app, degT_cons, deg_app]
  have e : touch a v = true ↔ v = f ∨ v = k := by
    unfold touch
    rw [Bool.or_eq_true, decide_eq_true_eq, decide_eq_true_eq]
    rcases h.en with ⟨e1, e2⟩ | ⟨e1, e2⟩ <;> omega
  by_cases q : touch a v = true
  · rw [if_pos q, if_pos (e.1 q)]; omega
  · rw [if_neg q, if_neg (fun q2 => q (e.2 q2))]; omega
theorem LeafAt.dead {n : Nat} {live : Nat → Bool} {pre post : List Arc} {a : Arc} {f k : Nat} (h : LeafAt n live pre a post f k) : degT (pre ++ post) f = 0 := by
  rw [deg_app, h.dpre, h.dpost]
/-- In a tree a node has as many neighbours as arcs. -/
theorem Tr.nb {n : Nat} (hn : n ≤ 12) : ∀ (m : Nat) {live : Nat → Bool} {es : List Arc}, es.length = m → Tr n live es → ∀ v : Nat, nbT es v = degT es v
  | 0, live, es, hm, _, v => by
    obtain rfl : es = [] := List.eq_nil_of_length_eq_zero hm
    rw [nb_congr (p := fun _ => false) fun u => rfl, List.countP_eq_zero.2 (by simp)]; rfl
  | m + 1, live, es, hm, h, v => by
    obtain ⟨f, fn, hf⟩ := h.leaf (by omega)
    obtain ⟨pre, a, post, k, rfl, hL⟩ := h.find hf
    have hl2 : (pre ++ post).length = m := by rw [List.length_append, List.length_cons] at hm; rw [List.length_append]; omega
    have ih := Tr.nb hn m hl2 hL.tr v
    have hd := hL.dead
    have hdf := adj_none0 hd
    have hfk := hL.fk
    have hkn := hL.kn
    rw [hL.deg]
    by_cases e1 : v = f
    · subst e1
      rw [nb_congr (p := fun u => decide (u = k)) fun u => by rw [hL.adj, hdf, Bool.or_false]; simp; omega, cnt_one (by omega), hd, if_pos (.inl rfl)]
    · by_cases e2 : v = k
      · subst e2
        rw [nb_congr (p := fun u => decide (u = f) || adjT (pre ++ post) v u) fun u => by rw [hL.adj]; simp [e1], countP_or fun u hu => by rw [of_decide_eq_true hu, adj_symm]; exact hdf v, cnt_one (by omega), if_pos (.inr rfl)]
        have e : (List.range 12).countP (fun u => adjT (pre ++ post) v u) = nbT (pre ++ post) v := rfl
        rw [e, ih]; omega
      · rw [nb_congr (p := fun u => adjT (pre ++ post) v u) fun u => by rw [hL.adj]; simp [e1, e2], if_neg (by omega)]
        exact ih
/-! ### The code of a tree -/
def leafB (es : List Arc) (v : Nat) : Bool := decide (degT es v = 1)
def leafN (n : Nat) (es : List Arc) : Nat := (List.range n).findIdx (leafB es)
def arcIx (es : List Arc) (f : Nat) : Nat := es.findIdx fun a => touch a f
def nextC (n : Nat) (es : List Arc) : List Arc := es.eraseIdx (arcIx es (leafN n es))
def otherC (n : Nat) (es : List Arc) : Int := (es.getD (arcIx es (leafN n es)) default).src + (es.getD (arcIx es (leafN n es)) default).dst - leafN n es
def codeF (n : Nat) : Nat → List Arc → List Int
  | 0, _ => []
  | r + 1, es => otherC n es :: codeF n r (nextC n es)
theorem codeF_len (n : Nat) : ∀ (r : Nat) (es : List Arc), (codeF n r es).length = r
  | 0, _ => rfl
  | r + 1, es => by rw [codeF, List.length_cons, codeF_len n r]
theorem leaf_first {n : Nat} {live : Nat → Bool} {es : List Arc} (h : Tr n live es) (he : 0 < es.length) : leafN n es < n ∧ degT es (leafN n es) = 1 ∧ ∀ j, j < leafN n es → degT es j ≠ 1 := by
  obtain ⟨f, fn, hf⟩ := h.leaf he
  have hlt : leafN n es < n := by
    have := List.findIdx_lt_length_of_exists (xs := List.range n) (p := leafB es) ⟨f, List.mem_range.2 fn, decide_eq_true hf⟩
    rwa [List.length_range] at this
  refine ⟨hlt, ?_, fun j hj => ?_⟩
  · have := List.findIdx_getElem (xs := List.range n) (p := leafB es) (w := by rw [List.length_range]; exact hlt)
    rw [List.getElem_range] at this
    exact of_decide_eq_true this
  · have := List.not_of_lt_findIdx (xs := List.range n) (p := leafB es) (i := j) hj
    rw [List.getElem_range] at this
    exact of_decide_eq_false this
theorem arcIx_is {pre post : List Arc} {a : Arc} {f : Nat} (h1 : degT pre f = 0) (ht : touch a f = true) : arcIx (pre ++ a :: post) f = pre.length := by
  unfold arcIx
  rw [List.findIdx_append, List.findIdx_cons, ht]
  have hno : ∀ b ∈ pre, touch b f = false := fun b hb => by
    have := List.countP_eq_zero.1 h1 b hb
    simpa using this
  have : ¬ (List.findIdx (fun a => touch a ↑f) pre < pre.length) := fun q => by
    have h3 := List.findIdx_getElem (xs := pre) (p := fun a => touch a ↑f) (w := q)
    rw [hno _ (List.getElem_mem q)] at h3
    cases h3
  rw [if_neg this]
  simp
theorem LeafAt.touch_ {n : Nat} {live : Nat → Bool} {pre post : List Arc} {a : Arc} {f k : Nat} (h : LeafAt n live pre a post f k) : touch a f = true := by
  unfold touch
  rw [Bool.or_eq_true, decide_eq_true_eq, decide_eq_true_eq]
  rcases h.en with ⟨e1, e2⟩ | ⟨e1, e2⟩
  · exact .inl e1
  · exact .inr e2
theorem arcIx_uniq {es : List Arc} {f k : Nat} (h : degT es f = 1) (hk : k < es.length) (ht : touch (es.getD k default) f = true) : arcIx es f = k := by
  obtain ⟨pre, a, post, rfl, ha, h1, h2⟩ := deg_one h
  rw [arcIx_is h1 ha]
  rw [getD_lt _ _ k hk] at ht
  rcases Nat.lt_trichotomy k pre.length with q | q | q
  · rw [List.getElem_append_left q] at ht
    have := List.countP_eq_zero.1 h1 _ (List.getElem_mem q)
    exact absurd ht this
  · exact q.symm
  · rw [List.getElem_append_right (by omega)] at ht
    obtain ⟨j, hj⟩ : ∃ j, k - pre.length = j + 1 := ⟨k - pre.length - 1, by omega⟩
    have hjl : j < post.length := by rw [List.length_append, List.length_cons] at hk; omega
    have e : (a :: post)[k - pre.length]'(by rw [List.length_cons]; omega) = post[j] := by simp [hj]
    rw [e] at ht
    have := List.countP_eq_zero.1 h2 _ (List.getElem_mem hjl)
    exact absurd ht this
theorem deg_take {es : List Arc} {i : Nat} {v : Int} (h : i < es.length) : degT (es.take (i + 1)) v = degT (es.take i) v + if touch (es.getD i default) v = true then 1 else 0 := by
  rw [take_getD es default i h, deg_app, degT_cons]
  have : degT [] v = 0 := rfl
  rw [this, Nat.zero_add]
theorem LeafAt.noloop {n : Nat} {live : Nat → Bool} {pre post : List Arc} {a : Arc} {f k : Nat} (h : LeafAt n live pre a post f k) : a.src ≠ a.dst := by
  have := h.fk
  rcases h.en with ⟨e1, e2⟩ | ⟨e1, e2⟩ <;> omega
theorem Tr.noloop0 {n : Nat} : ∀ (m : Nat) {live : Nat → Bool} {es : List Arc}, es.length = m → Tr n live es → ∀ a ∈ es, a.src ≠ a.dst
  | 0, live, es, hm, _, a, ha => by
    obtain rfl : es = [] := List.eq_nil_of_length_eq_zero hm
    cases ha
  | m + 1, live, es, hm, h, a, ha => by
    obtain ⟨f, fn, hf⟩ := h.leaf (by omega)
    obtain ⟨pre, b, post, k, rfl, hL⟩ := h.find hf
    have hl2 : (pre ++ post).length = m := by rw [List.length_append, List.length_cons] at hm; rw [List.length_append]; omega
    rw [List.mem_append, List.mem_cons] at ha
    rcases ha with q | rfl | q
    · exact Tr.noloop0 m hl2 hL.tr a (List.mem_append.2 (.inl q))
    · exact hL.noloop
    · exact Tr.noloop0 m hl2 hL.tr a (List.mem_append.2 (.inr q))
theorem Tr.noloop {n : Nat} {live : Nat → Bool} {es : List Arc} (h : Tr n live es) : ∀ a ∈ es, a.src ≠ a.dst := Tr.noloop0 _ rfl h
/-- What a round finds. -/
theorem Tr.round {n : Nat} {live : Nat → Bool} {es : List Arc} (h : Tr n live es) (he : 0 < es.length) :
    ∃ pre a post k, es = pre ++ a :: post ∧ LeafAt n live pre a post (leafN n es) k ∧ arcIx es (leafN n es) = pre.length ∧ nextC n es = pre ++ post ∧ otherC n es = (k : Int) ∧ es.getD (arcIx es (leafN n es)) default = a := by
  obtain ⟨h1, h2, h3⟩ := leaf_first h he
  obtain ⟨pre, a, post, k, e, hL⟩ := h.find h2
  have hi : arcIx es (leafN n es) = pre.length := by
    have := arcIx_is (post := post) hL.dpre hL.touch_
    rw [← e] at this; exact this
  have ha : es.getD (arcIx es (leafN n es)) default = a := by
    rw [hi, List.getD_eq_getElem?_getD, e, List.getElem?_append_right (Nat.le_refl _)]; simp
  refine ⟨pre, a, post, k, e, hL, hi, ?_, ?_, ha⟩
  · unfold nextC
    rw [hi, e, List.eraseIdx_append_of_length_le (Nat.le_refl _)]
    simp
  · unfold otherC
    rw [ha]
    rcases hL.en with ⟨e1, e2⟩ | ⟨e1, e2⟩ <;> omega
theorem Tr.next_len {n : Nat} {live : Nat → Bool} {es : List Arc} (h : Tr n live es) (he : 0 < es.length) : (nextC n es).length + 1 = es.length := by
  obtain ⟨pre, a, post, k, e, _, _, hn, _⟩ := h.round he
  rw [hn, congrArg List.length e]
  simp; omega
theorem NearM.add2 {N : List Int} {es : List Arc} (h : NearM N es) {a : Arc} (h1 : 0 ≤ a.src) (h0 : 0 ≤ a.dst) (h2 : a.src ≠ a.dst) (h4 : a.src < 12) (h3 : a.dst < 12) :
    NearM ((N.set a.src.toNat (ior (N.getD a.src.toNat 0) (1 * 2 ^ a.dst.toNat))).set a.dst.toNat (ior ((N.set a.src.toNat (ior (N.getD a.src.toNat 0) (1 * 2 ^ a.dst.toNat))).getD a.dst.toNat 0) (1 * 2 ^ a.src.toNat))) (es ++ [a]) := by
  have hl := h.len
  have hat : ∀ v : Nat, ((N.set a.src.toNat (ior (N.getD a.src.toNat 0) (1 * 2 ^ a.dst.toNat))).set a.dst.toNat (ior ((N.set a.src.toNat (ior (N.getD a.src.toNat 0) (1 * 2 ^ a.dst.toNat))).getD a.dst.toNat 0) (1 * 2 ^ a.src.toNat))).getD v 0
      = if v = a.dst.toNat then ior (N.getD a.dst.toNat 0) (1 * 2 ^ a.src.toNat) else if v = a.src.toNat then ior (N.getD a.src.toNat 0) (1 * 2 ^ a.dst.toNat) else N.getD v 0 := fun v => by
    rw [getD_set_if _ _ _ _ (by rw [List.length_set]; omega), getD_set_if _ _ _ _ (by omega), getD_set_if _ _ _ _ (by omega), if_neg (show ¬ a.dst.toNat = a.src.toNat by omega)]
  refine ⟨by rw [List.length_set, List.length_set]; exact hl, fun v => ?_, fun v u hv => ?_⟩
  · rw [hat]
    split
    · exact nm_ior (h.rng _) (nm_pow (k := a.src.toNat) (by omega))
    · split
      · exact nm_ior (h.rng _) (nm_pow (k := a.dst.toNat) (by omega))
      · exact h.rng v
  · rw [hat, adj_snoc]
    split
    · rename_i e
      rw [has_ior, h.bit _ _ (by omega), has_pow, ← e]
      congr 1
      rw [Bool.eq_iff_iff]; simp only [Bool.or_eq_true, Bool.and_eq_true, decide_eq_true_eq]; omega
    · split
      · rename_i e
        rw [has_ior, h.bit _ _ (by omega), has_pow, ← e]
        congr 1
        rw [Bool.eq_iff_iff]; simp only [Bool.or_eq_true, Bool.and_eq_true, decide_eq_true_eq]; omega
      · rename_i e1 e2
        rw [h.bit _ _ hv]
        have : ((decide (a.src = (v : Int)) && decide (a.dst = (u : Int))) || (decide (a.dst = (v : Int)) && decide (a.src = (u : Int)))) = false := by
          rw [Bool.eq_false_iff]; simp only [ne_eq, Bool.or_eq_true, Bool.and_eq_true, decide_eq_true_eq]; omega
        rw [this, Bool.or_false]
/-- A round of the reference: the first mask of one bit. -/
theorem tr_round {n : Nat} (hn : n ≤ 12) {N : List Int} {live : Nat → Bool} {es : List Arc} (h : Tr n live es) (he : 0 < es.length) (hN : NearM N es) :
    ∃ f k : Nat, leafN n es = f ∧ f < n ∧ idxOf one16 N = f ∧ otherC n es = (k : Int) ∧ k < n ∧ f ≠ k ∧ N.getD f 0 = 1 * 2 ^ k ∧ (∀ j : Nat, N.getD f 0 = 1 * 2 ^ j → j = k) ∧
      NearM ((N.set k (iandn (N.getD k 0) (1 * 2 ^ f))).set f 0) (nextC n es) ∧ ∃ live2, Tr n live2 (nextC n es) := by
  obtain ⟨h1, h2, h3⟩ := leaf_first h he
  obtain ⟨pre, a, post, k, e, hL, _, hnx, hot, _⟩ := h.round he
  rw [hnx, hot]
  obtain ⟨f, hf⟩ : ∃ f, f = leafN n es := ⟨_, rfl⟩
  rw [← hf] at h1 h2 h3 hL
  rw [← hf]
  have hl := hN.len
  have hfk := hL.fk
  have hkn := hL.kn
  have hdf : ∀ u, adjT (pre ++ post) f u = false := adj_none0 hL.dead
  have hadj : ∀ v u, adjT es v u = (((decide (v = f) && decide (u = k)) || (decide (v = k) && decide (u = f))) || adjT (pre ++ post) v u) := fun v u => by rw [e]; exact hL.adj v u
  have hone : ∀ v : Nat, v < n → one16 (N.getD v 0) = decide (degT es v = 1) := fun v hv => by
    have g1 := Tr.nb hn _ rfl h v
    unfold nbT at g1
    rw [one_is (hN.rng v), show (fun u => has (N.getD v 0) u) = fun u => adjT es v u from funext fun u => hN.bit v u (by omega), g1, Bool.eq_iff_iff, beq_iff_eq, decide_eq_true_eq]
  have hpow : N.getD f 0 = 1 * 2 ^ k := by
    refine side_ext (hN.rng f).1 (nm_pow (by omega)).1 fun u => ?_
    rw [hN.bit f u (by omega), hadj, hdf, has_pow, Bool.or_false, Bool.eq_iff_iff]
    simp only [Bool.or_eq_true, Bool.and_eq_true, decide_eq_true_eq, true_and]
    omega
  refine ⟨f, k, rfl, h1, ?_, rfl, hkn, hfk, hpow, fun j hj => ?_, ?_, _, hL.tr⟩
  · refine idxOf_at (d := 0) (fun j hj => ?_) (by omega) ?_
    · rw [hone j (by omega)]; exact decide_eq_false (h3 j hj)
    · rw [hone f h1]; exact decide_eq_true h2
  · have g1 : has (1 * 2 ^ k) j = true := by rw [← hpow, hj, has_pow]; simp
    rw [has_pow] at g1
    exact (of_decide_eq_true g1).symm
  · have hg : ∀ v : Nat, ((N.set k (iandn (N.getD k 0) (1 * 2 ^ f))).set f 0).getD v 0 = if v = f then 0 else if v = k then iandn (N.getD k 0) (1 * 2 ^ f) else N.getD v 0 := fun v => by
      rw [getD_set_if _ _ _ _ (by rw [List.length_set]; omega), getD_set_if _ _ _ _ (by omega)]
    refine ⟨by rw [List.length_set, List.length_set]; exact hl, fun v => ?_, fun v u hv => ?_⟩
    · rw [hg]
      split
      · omega
      · split
        · exact nm_iandn (a := N.getD k 0) (hN.rng k)
        · exact hN.rng v
    · rw [hg]
      split
      · rename_i e; rw [e, has_zero, hdf]
      · rename_i e1
        split
        · rename_i e
          rw [has_iandn, hN.bit k u (by omega), hadj, has_pow, e]
          by_cases e3 : u = f
          · rw [e3, adj_symm, hdf]; simp [Ne.symm hfk]
          · simp [Ne.symm hfk, e3]; intro _; omega
        · rename_i e2
          rw [hN.bit v u hv, hadj]
          simp [e1, e2]
/-- A graph that is a tree by its parts. -/
theorem tr_of {n : Int} {es : List Arc} (h1 : 1 ≤ n) (h12 : n ≤ 12) (hA : InR n es) (hl : (es.length : Int) = n - 1) (hj : ∀ x ∈ joinedOf n es, x = 0) : Tr n.toNat (fun _ => true) es where
  in_ := fun a ha => by
    obtain ⟨a1, a2, a3, a4⟩ := hA a ha
    exact ⟨a.src.toNat, a.dst.toNat, by omega, by omega, by omega, by omega, rfl, rfl⟩
  len := by
    have : nodesN n.toNat (fun _ => true) = n.toNat := by unfold nodesN; rw [List.countP_true, List.length_range]
    omega
  con := fun u v hu hv _ _ => by
    have hz : ∀ w, w < n.toNat → (joinedOf n es).getD w 0 = 0 := fun w hw => hj _ (getD_mem (by rw [joinedOf_len]; exact hw))
    exact (lk_root h12 hA (by omega) (by omega)).1 (by rw [hz u hu, hz v hv])
end Go.Ab
