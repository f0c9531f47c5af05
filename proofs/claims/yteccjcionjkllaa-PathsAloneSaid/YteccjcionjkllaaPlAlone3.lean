/- Of ways that have no node in common (MENGER): the ways. The plain laws. -/
import Derived.Test.YteccjcionjkllaaPlAlone2
import Derived.Test.YteccjcionjkllaaPlPaths
namespace Go.Ab
def stripTo (m : Int) (K w : List Int) : List Int := (w.filter fun k => decide (m ≤ k)).map fun k => K.getD (k - m).toNat 0
theorem strip_app (m : Int) (K xs ys : List Int) : stripTo m K (xs ++ ys) = stripTo m K xs ++ stripTo m K ys := by unfold stripTo; rw [List.filter_append, List.map_append]
theorem strip_yes {m k : Int} {K : List Int} (h : m ≤ k) (r : List Int) : stripTo m K (k :: r) = K.getD (k - m).toNat 0 :: stripTo m K r := by
  unfold stripTo; rw [List.filter_cons, if_pos (decide_eq_true h), List.map_cons]
theorem strip_no {m k : Int} {K : List Int} (h : k < m) (r : List Int) : stripTo m K (k :: r) = stripTo m K r := by
  unfold stripTo; rw [List.filter_cons, if_neg (by rw [decide_eq_true_eq]; omega)]
theorem strip_take_yes {m : Int} {K w : List Int} {j : Nat} (hj : j < w.length) (h : m ≤ w.getD j 0) : stripTo m K (w.take (j + 1)) = stripTo m K (w.take j) ++ [K.getD (w.getD j 0 - m).toNat 0] := by
  rw [take_getD w 0 j hj, strip_app, strip_yes h]; rfl
theorem strip_take_no {m : Int} {K w : List Int} {j : Nat} (hj : j < w.length) (h : w.getD j 0 < m) : stripTo m K (w.take (j + 1)) = stripTo m K (w.take j) := by
  rw [take_getD w 0 j hj, strip_app, strip_no h]; simp [stripTo]
theorem strip_le (m : Int) (K w : List Int) : (stripTo m K w).length ≤ w.length := by unfold stripTo; rw [List.length_map]; exact List.length_filter_le _ _
theorem getD_map0 {α β : Type} (f : α → β) (d : α) (e : β) (l : List α) (i : Nat) (h : i < l.length) : (l.map f).getD i e = f (l.getD i d) := by
  rw [getD_lt _ _ _ (by rw [List.length_map]; exact h), getD_lt _ _ _ h, List.getElem_map]
theorem AlOk.lo {n s t k : Int} {es : List Arc} (h : AlOk n s t es) (h0 : 0 ≤ k) (h1 : k < n - 2) : (aloneNet n s t es).getD k.toNat default = nodeA ((nodesTo s t n.toNat).getD k.toNat 0) ∧ (nodesTo s t n.toNat).getD k.toNat 0 ∈ nodesTo s t n.toNat := by
  have := h.nodes
  have hk : k.toNat < (nodesTo s t n.toNat).length := by omega
  refine ⟨?_, getD_mem hk⟩
  unfold aloneNet aloneTo
  rw [getD_app_l _ _ _ _ (by rw [List.length_map]; exact hk), getD_map0 nodeA 0 default _ _ hk]
theorem AlOk.hi {n s t k : Int} {es : List Arc} (h : AlOk n s t es) (h0 : n - 2 ≤ k) (h1 : k < (aloneNet n s t es).length) :
    (aloneNet n s t es).getD k.toNat default = keepK es ((keptTo es s t es.length).getD (k - (n - 2)).toNat 0) ∧ (keptTo es s t es.length).getD (k - (n - 2)).toNat 0 ∈ keptTo es s t es.length ∧ (k - (n - 2)).toNat < (keptTo es s t es.length).length := by
  have hn := h.nodes
  unfold aloneNet aloneTo at h1 ⊢
  rw [List.length_append, List.length_map, List.length_map] at h1
  have hk : (k - (n - 2)).toNat < (keptTo es s t es.length).length := by omega
  refine ⟨?_, getD_mem hk, hk⟩
  have hq := getD_app_r ((nodesTo s t n.toNat).map nodeA) ((keptTo es s t es.length).map (keepK es)) default (k - (n - 2)).toNat
  rw [List.length_map, show (nodesTo s t n.toNat).length + (k - (n - 2)).toNat = k.toNat by omega] at hq
  rw [hq, getD_map0 (keepK es) 0 default _ _ hk]
def dstOf (es : List Arc) (k : Int) : Int := (es.getD k.toNat default).dst
def innerOf (es : List Arc) (w : List Int) : List Int := w.dropLast.map (dstOf es)
def Node (n s t : Int) (w : List Int) (x : Int) : Prop := ∃ j ∈ w, 0 ≤ j ∧ j < n - 2 ∧ (nodesTo s t n.toNat).getD j.toNat 0 = x
theorem Node.cons {n s t x : Int} {w : List Int} (k : Int) (h : Node n s t w x) : Node n s t (k :: w) x := by
  obtain ⟨j, hj, q⟩ := h
  exact ⟨j, List.mem_cons_of_mem _ hj, q⟩
structure Stripped (n s t : Int) (es : List Arc) (w : List Int) (a : Int) : Prop where
  way : isWay es (stripTo (n - 2) (keptTo es s t es.length) w) a t = true
  ne : stripTo (n - 2) (keptTo es s t es.length) w ≠ []
  inner : innerOf es (stripTo (n - 2) (keptTo es s t es.length) w) = (w.filter fun k => decide (k < n - 2)).map fun k => (nodesTo s t n.toNat).getD k.toNat 0
  by_ : ∀ k ∈ w, n - 2 ≤ k → ((es.getD ((keptTo es s t es.length).getD (k - (n - 2)).toNat 0).toNat default).src = a ∨ Node n s t w (es.getD ((keptTo es s t es.length).getD (k - (n - 2)).toNat 0).toNat default).src) ∧
    ((es.getD ((keptTo es s t es.length).getD (k - (n - 2)).toNat 0).toNat default).dst = t ∨ Node n s t w (es.getD ((keptTo es s t es.length).getD (k - (n - 2)).toNat 0).toNat default).dst)
theorem odd_hi {n s t k a : Int} {es : List Arc} (h : AlOk n s t es) (k0 : 0 ≤ k) (k1 : k < (aloneNet n s t es).length) (k2 : ((aloneNet n s t es).getD k.toNat default).src = 2 * a + 1) :
    n - 2 ≤ k ∧ (keptTo es s t es.length).getD (k - (n - 2)).toNat 0 ∈ keptTo es s t es.length ∧ (es.getD ((keptTo es s t es.length).getD (k - (n - 2)).toNat 0).toNat default).src = a ∧
      ((aloneNet n s t es).getD k.toNat default).dst = 2 * (es.getD ((keptTo es s t es.length).getD (k - (n - 2)).toNat 0).toNat default).dst := by
  by_cases c : k < n - 2
  · obtain ⟨e, _⟩ := h.lo k0 c
    rw [e] at k2
    simp only [nodeA] at k2
    omega
  · obtain ⟨e, e2, _⟩ := h.hi (by omega) k1
    rw [e] at k2 ⊢
    simp only [keepK, keepA] at k2 ⊢
    exact ⟨by omega, e2, by omega, trivial⟩
theorem even_lo {n s t k b : Int} {es : List Arc} (h : AlOk n s t es) (k0 : 0 ≤ k) (k1 : k < (aloneNet n s t es).length) (k2 : ((aloneNet n s t es).getD k.toNat default).src = 2 * b) :
    k < n - 2 ∧ (nodesTo s t n.toNat).getD k.toNat 0 = b ∧ b ∈ nodesTo s t n.toNat ∧ ((aloneNet n s t es).getD k.toNat default).dst = 2 * b + 1 := by
  by_cases c : k < n - 2
  · obtain ⟨e, e2⟩ := h.lo k0 c
    rw [e] at k2 ⊢
    simp only [nodeA] at k2 ⊢
    have : (nodesTo s t n.toNat).getD k.toNat 0 = b := by omega
    rw [this] at e2 ⊢
    exact ⟨c, rfl, e2, rfl⟩
  · obtain ⟨e, e2, _⟩ := h.hi (by omega) k1
    rw [e] at k2
    simp only [keepK, keepA] at k2
    omega
theorem kept_in {es : List Arc} {s t c : Int} (h : c ∈ keptTo es s t es.length) : 0 ≤ c ∧ c < es.length ∧ keepB s t (es.getD c.toNat default) := by
  have := keptTo_mem.1 h
  exact ⟨this.1, by omega, this.2.2⟩
theorem strip_way {n s t : Int} {es : List Arc} (h : AlOk n s t es) : ∀ (w : List Int) (a : Int), a ≠ t → isWay (aloneNet n s t es) w (2 * a + 1) (2 * t) = true → Stripped n s t es w a
  | [], a, _, hw => by
    simp only [isWay, decide_eq_true_eq] at hw
    omega
  | [k], a, ha, hw => by
    simp only [isWay, Bool.and_eq_true, decide_eq_true_eq] at hw
    obtain ⟨⟨k0, k1, k2⟩, k3⟩ := hw
    obtain ⟨e1, e2, e3, e4⟩ := odd_hi h k0 k1 k2
    obtain ⟨c0, c1, _⟩ := kept_in e2
    have e5 : (es.getD ((keptTo es s t es.length).getD (k - (n - 2)).toNat 0).toNat default).dst = t := by omega
    refine ⟨?_, ?_, ?_, fun j hj _ => ?_⟩
    · rw [strip_yes e1]
      simp only [stripTo, List.filter_nil, List.map_nil, isWay, Bool.and_eq_true, decide_eq_true_eq]
      exact ⟨⟨c0, c1, e3⟩, e5⟩
    · rw [strip_yes e1]; exact List.cons_ne_nil _ _
    · rw [strip_yes e1, List.filter_cons, if_neg (by rw [decide_eq_true_eq]; omega)]
      simp [stripTo, innerOf]
    · rw [List.mem_singleton.1 hj]
      exact ⟨.inl e3, .inl e5⟩
  | k :: k' :: r, a, ha, hw => by
    simp only [isWay, Bool.and_eq_true, decide_eq_true_eq] at hw
    obtain ⟨⟨k0, k1, k2⟩, ⟨k3, k4, k5⟩, k6⟩ := hw
    obtain ⟨e1, e2, e3, e4⟩ := odd_hi h k0 k1 k2
    obtain ⟨c0, c1, _⟩ := kept_in e2
    rw [e4] at k5
    obtain ⟨g1, g2, g3, g4⟩ := even_lo h k3 k4 k5
    rw [g4] at k6
    have hbt := (nodesTo_mem.1 g3).2.2.2
    obtain ⟨i1, i2, i3, i4⟩ := strip_way h r _ hbt k6
    have hsp : stripTo (n - 2) (keptTo es s t es.length) (k :: k' :: r) = (keptTo es s t es.length).getD (k - (n - 2)).toNat 0 :: stripTo (n - 2) (keptTo es s t es.length) r := by rw [strip_yes e1, strip_no g1]
    have hnode : Node n s t (k :: k' :: r) (es.getD ((keptTo es s t es.length).getD (k - (n - 2)).toNat 0).toNat default).dst := ⟨k', by simp, k3, g1, g2⟩
    refine ⟨?_, ?_, ?_, fun j hj hj2 => ?_⟩
    · rw [hsp]
      simp only [isWay, Bool.and_eq_true, decide_eq_true_eq]
      exact ⟨⟨c0, c1, e3⟩, i1⟩
    · rw [hsp]; exact List.cons_ne_nil _ _
    · rw [hsp, List.filter_cons, if_neg (by rw [decide_eq_true_eq]; omega), List.filter_cons, if_pos (decide_eq_true g1), List.map_cons, ← i3, g2]
      unfold innerOf
      rw [List.dropLast_cons_of_ne_nil i2, List.map_cons]
      rfl
    · rcases List.mem_cons.1 hj with rfl | hj
      · exact ⟨.inl e3, .inr hnode⟩
      · rcases List.mem_cons.1 hj with rfl | hj
        · omega
        · obtain ⟨q1, q2⟩ := i4 j hj hj2
          refine ⟨.inr ?_, q2.imp id fun q => (q.cons k').cons k⟩
          rcases q1 with q1 | q1
          · rw [q1]; exact hnode
          · exact (q1.cons k').cons k
theorem usedOf_le {es : List Arc} {k j : Nat} : ∀ {l : List (Int × List Int)}, (∀ p ∈ l, PcOk es p) → (∀ p ∈ l, (k : Int) ∈ p.2 → (j : Int) ∈ p.2) → usedOf k l ≤ usedOf j l
  | [], _, _ => Int.le_refl _
  | p :: r, h, hk => by
    obtain ⟨x, y, hp⟩ := h p List.mem_cons_self
    have h1 := hp.a1
    have ih := usedOf_le (fun q hq => h q (List.mem_cons_of_mem _ hq)) fun q hq => hk q (List.mem_cons_of_mem _ hq)
    have h2 := hk p List.mem_cons_self
    simp only [usedOf]
    by_cases c : (k : Int) ∈ p.2
    · rw [if_pos c, if_pos (h2 c)]; omega
    · rw [if_neg c]; split <;> omega
theorem usedOf_none {k : Nat} : ∀ {l : List (Int × List Int)}, (∀ p ∈ l, (k : Int) ∉ p.2) → usedOf k l = 0
  | [], _ => rfl
  | p :: r, h => by
    simp only [usedOf]
    rw [if_neg (h p List.mem_cons_self), usedOf_none fun q hq => h q (List.mem_cons_of_mem _ hq)]
    rfl
theorem up_inj {l : List Int} (h : l.Pairwise (· < ·)) {i j : Nat} (hi : i < l.length) (hj : j < l.length) (e : l.getD i 0 = l.getD j 0) : i = j := by
  rcases Nat.lt_trichotomy i j with c | c | c
  · have := up_at h c hj; omega
  · exact c
  · have := up_at h c hi; omega
structure Alone (n s t : Int) (es : List Arc) (W : List (List Int)) : Prop extends Apart es s t W where
  ne : ∀ w ∈ W, w ≠ []
  nodes : (W.map (innerOf es)).flatten.Nodup
  inn : ∀ w ∈ W, ∀ x ∈ innerOf es w, 0 ≤ x ∧ x < n ∧ x ≠ s ∧ x ≠ t
theorem flat_strip (m : Int) (K : List Int) : ∀ l : List (List Int), (l.map (stripTo m K)).flatten = stripTo m K l.flatten
  | [] => rfl
  | w :: r => by rw [List.map_cons, List.flatten_cons, List.flatten_cons, strip_app, flat_strip m K r]
theorem flat_fm (p : Int → Bool) (f : Int → Int) : ∀ l : List (List Int), (l.map fun w => (w.filter p).map f).flatten = (l.flatten.filter p).map f
  | [] => rfl
  | w :: r => by rw [List.map_cons, List.flatten_cons, List.flatten_cons, List.filter_append, List.map_append, flat_fm p f r]
theorem nodup_map {f : Int → Int} {l : List Int} (h : l.Nodup) (hi : ∀ a ∈ l, ∀ b ∈ l, f a = f b → a = b) : (l.map f).Nodup := by
  unfold List.Nodup at h ⊢
  rw [List.pairwise_map]
  exact List.Pairwise.imp_of_mem (fun ha hb hab e => hab (hi _ ha _ hb e)) h
theorem alone_of {n s t v : Int} {es : List Arc} {g : List Int} {ways rounds : List (Int × List Int)} {e : Int} (h : AlOk n s t es) (hf : FlOk (2 * n) (2 * s + 1) (2 * t) (aloneNet n s t es) g)
    (hv : gone (aloneNet n s t es) g (2 * s + 1) = v) (hp : v = (parted (2 * n) (2 * s + 1) (2 * t) (aloneNet n s t es)).1) (hso : SplitOk (2 * n) (2 * s + 1) (2 * t) (aloneNet n s t es) g ways rounds e) :
    Alone n s t es (ways.map fun p => stripTo (n - 2) (keptTo es s t es.length) p.2) ∧ ((ways.length : Nat) : Int) = blockOf n s t es := by
  have hok := h.net
  have hE := flowErr_of hf hok.err
  obtain ⟨z, hz⟩ := MinCut.exists_ hok
  have hpos : 0 ≤ (parted (2 * n) (2 * s + 1) (2 * t) (aloneNet n s t es)).1 := by rw [← hz.2]; exact (capOf_in hok.toGOk hz.1.1).1
  have hnl := h.nodes
  rcases hso with ⟨q, _⟩ | ⟨_, q, _⟩ | ⟨_, _, _, h1, h2, h3, h4, h5⟩
  · exact absurd hE q
  · omega
  · have hokw : ∀ p ∈ ways, PcOk (aloneNet n s t es) p := fun p hp => ⟨_, _, h1 p hp⟩
    have hokr : ∀ p ∈ rounds, PcOk (aloneNet n s t es) p := fun p hp => by obtain ⟨x, hx⟩ := h2 p hp; exact ⟨_, _, hx⟩
    have hst : ∀ p ∈ ways, Stripped n s t es p.2 s := fun p hp => strip_way h p.2 s h.ne (h1 p hp).way
    have hlo1 : ∀ k : Nat, (k : Int) < n - 2 → usedOf k ways ≤ 1 := fun k hk => by
      have hlen : k < (aloneNet n s t es).length := by unfold aloneNet aloneTo; rw [List.length_append, List.length_map]; omega
      have e1 := h3 k hlen
      have e2 := usedOf_nonneg (es := aloneNet n s t es) k hokr
      have e3 := hf.fin.at_ k hlen
      obtain ⟨e4, _⟩ := h.lo (k := (k : Int)) (by omega) hk
      rw [Int.toNat_natCast] at e4
      rw [e4] at e3
      simp only [nodeA] at e3
      omega
    have hnode : ∀ k : Int, ∃ x : Int, ∀ p ∈ ways, k ∈ p.2 → n - 2 ≤ k → Node n s t p.2 x := fun k => by
      by_cases c : (es.getD ((keptTo es s t es.length).getD (k - (n - 2)).toNat 0).toNat default).src = s
      · refine ⟨(es.getD ((keptTo es s t es.length).getD (k - (n - 2)).toNat 0).toNat default).dst, fun p hp hk hk2 => ?_⟩
        obtain ⟨_, q⟩ := (hst p hp).by_ k hk hk2
        rcases q with q | q
        · obtain ⟨_, q2, _⟩ := h.hi hk2 ((h1 p hp).kr k hk).2
          have q3 := kept_in q2
          exact absurd ⟨c, q⟩ (h.nod _ (getD_mem (by omega)))
        · exact q
      · refine ⟨(es.getD ((keptTo es s t es.length).getD (k - (n - 2)).toNat 0).toNat default).src, fun p hp hk hk2 => ?_⟩
        obtain ⟨q, _⟩ := (hst p hp).by_ k hk hk2
        exact q.resolve_left c
    have hle1 : ∀ k : Nat, usedOf k ways ≤ 1 := fun k => by
      by_cases c : (k : Int) < n - 2
      · exact hlo1 k c
      · by_cases hno : ∃ p ∈ ways, (k : Int) ∈ p.2
        · obtain ⟨p, hp, hk⟩ := hno
          obtain ⟨x, hx⟩ := hnode k
          obtain ⟨j, hj, j0, j1, j2⟩ := hx p hp hk (by omega)
          refine Int.le_trans (usedOf_le (j := j.toNat) hokw fun q hq hkq => ?_) (hlo1 j.toNat (by omega))
          obtain ⟨i, hi, i0, i1, i2⟩ := hx q hq hkq (by omega)
          have := up_inj nodesTo_up (l := nodesTo s t n.toNat) (i := i.toNat) (j := j.toNat) (by omega) (by omega) (by rw [i2, j2])
          rw [show ((j.toNat : Nat) : Int) = i by omega]
          exact hi
        · rw [usedOf_none fun p hp q => hno ⟨p, hp, q⟩]; omega
    have hone : ∀ p ∈ ways, p.1 = 1 := fun p hp => by
      have hP := h1 p hp
      obtain ⟨c, hc⟩ := List.exists_mem_of_ne_nil _ (hst p hp).ne
      unfold stripTo at hc
      obtain ⟨k, hk, _⟩ := List.mem_map.1 hc
      obtain ⟨hk, hk2⟩ := List.mem_filter.1 hk
      have hkr := hP.kr k hk
      have e1 := usedOf_mem (k := k.toNat) hokw p hp (by rw [Int.toNat_of_nonneg hkr.1]; exact hk)
      have e2 := hle1 k.toNat
      have e3 := hP.a1
      omega
    have hF := flat_nodup hokw hle1
    have hFr : ∀ k : Int, k ∈ (ways.map fun p => p.2).flatten → 0 ≤ k ∧ k < (aloneNet n s t es).length := fun k hk => by
      obtain ⟨w, hw, hkw⟩ := List.mem_flatten.1 hk
      obtain ⟨p, hp, rfl⟩ := List.mem_map.1 hw
      exact (h1 p hp).kr k hkw
    have hW : (ways.map fun p => stripTo (n - 2) (keptTo es s t es.length) p.2) = (ways.map fun p => p.2).map (stripTo (n - 2) (keptTo es s t es.length)) := by rw [List.map_map]; rfl
    refine ⟨⟨⟨fun w hw => ?_, ?_, fun w hw c hc => ?_⟩, fun w hw => ?_, ?_, fun w hw x hx => ?_⟩, ?_⟩
    · obtain ⟨p, hp, rfl⟩ := List.mem_map.1 hw
      exact (hst p hp).way
    · rw [hW, flat_strip]
      unfold stripTo
      refine nodup_map (hF.filter _) fun a ha b hb e => ?_
      obtain ⟨a1, a2⟩ := List.mem_filter.1 ha
      obtain ⟨b1, b2⟩ := List.mem_filter.1 hb
      rw [decide_eq_true_eq] at a2 b2
      obtain ⟨_, _, x1⟩ := h.hi a2 (hFr a a1).2
      obtain ⟨_, _, x2⟩ := h.hi b2 (hFr b b1).2
      have := up_inj keptTo_up x1 x2 e
      omega
    · obtain ⟨p, hp, rfl⟩ := List.mem_map.1 hw
      unfold stripTo at hc
      obtain ⟨k, hk, rfl⟩ := List.mem_map.1 hc
      obtain ⟨hk, hk2⟩ := List.mem_filter.1 hk
      rw [decide_eq_true_eq] at hk2
      obtain ⟨_, q, _⟩ := h.hi hk2 ((h1 p hp).kr k hk).2
      have := kept_in q
      exact ⟨this.1, this.2.1⟩
    · obtain ⟨p, hp, rfl⟩ := List.mem_map.1 hw
      exact (hst p hp).ne
    · rw [List.map_map]
      have e1 : ways.map (innerOf es ∘ fun p => stripTo (n - 2) (keptTo es s t es.length) p.2) = (ways.map fun p => p.2).map fun w => (w.filter fun k => decide (k < n - 2)).map fun k => (nodesTo s t n.toNat).getD k.toNat 0 := by
        rw [List.map_map]
        exact List.map_congr_left fun p hp => (hst p hp).inner
      rw [e1, flat_fm]
      refine nodup_map (hF.filter _) fun a ha b hb e => ?_
      obtain ⟨a1, a2⟩ := List.mem_filter.1 ha
      obtain ⟨b1, b2⟩ := List.mem_filter.1 hb
      rw [decide_eq_true_eq] at a2 b2
      have x1 := hFr a a1
      have x2 := hFr b b1
      have := up_inj nodesTo_up (l := nodesTo s t n.toNat) (i := a.toNat) (j := b.toNat) (by omega) (by omega) e
      omega
    · obtain ⟨p, hp, rfl⟩ := List.mem_map.1 hw
      rw [(hst p hp).inner] at hx
      obtain ⟨k, hk, rfl⟩ := List.mem_map.1 hx
      obtain ⟨hk, hk2⟩ := List.mem_filter.1 hk
      rw [decide_eq_true_eq] at hk2
      obtain ⟨_, q⟩ := h.lo ((h1 p hp).kr k hk).1 hk2
      have := nodesTo_mem.1 q
      have := h.n1
      omega
    · rw [← sum_ones hone, h4, hv, hp, blockOf_eq h]
end Go.Ab
