/- Of a net that changes, and what went goes on: the plain laws. -/
import Derived.Test.YtcmaffldmodacaaPlSplit2
namespace Go.Ab
def repErr (n s t : Int) (es : List Arc) (f : List Int) : Int := if flowErr n s t es f ≠ 0 then flowErr n s t es f else if gone es f s ≠ (parted n s t es).1 then 9 else 0
theorem repErr_flow {n s t : Int} {es : List Arc} {f : List Int} (h : flowErr n s t es f ≠ 0) : repErr n s t es f = flowErr n s t es f := by rw [repErr, if_pos h]
theorem repErr_best {n s t : Int} {es : List Arc} {f : List Int} (h : flowErr n s t es f = 0) (h2 : gone es f s ≠ (parted n s t es).1) : repErr n s t es f = 9 := by rw [repErr, if_neg (by omega), if_pos h2]
theorem repErr_none {n s t : Int} {es : List Arc} {f : List Int} (h : flowErr n s t es f = 0) (h2 : gone es f s = (parted n s t es).1) : repErr n s t es f = 0 := by rw [repErr, if_neg (by omega), if_neg (by omega)]
theorem repErr_ok {n s t : Int} {es : List Arc} {f : List Int} (h : repErr n s t es f = 0) : FlOk n s t es f ∧ flowErr n s t es f = 0 ∧ gone es f s = (parted n s t es).1 := by
  unfold repErr at h
  split at h
  · omega
  · rename_i h1
    split at h
    · omega
    · rename_i h2
      exact ⟨flowErr_ok (by omega), by omega, by omega⟩
/-! ### An arc takes less, or more -/
def capLess (k takes : Int) (g : List Int) (p : Int × List Int) : Int := max 0 (min p.1 (g.getD k.toNat 0 - takes))
def capStep (k takes : Int) (g : List Int) (p : Int × List Int) : List Int := if k ∈ p.2 then takeOff (capLess k takes g p) g p.2 else g
def setCap (es : List Arc) (k : Nat) (c : Int) : List Arc := es.set k ⟨(es.getD k default).src, (es.getD k default).dst, c⟩
structure CapInv (s t : Int) (es : List Arc) (f : List Int) (k takes : Int) (g : List Int) (L : List (Int × List Int)) : Prop where
  len : g.length = es.length
  lo : ∀ j, j < es.length → usedOf j L ≤ g.getD j 0
  hi : ∀ j, j < es.length → g.getD j 0 ≤ f.getD j 0
  kept : ∀ v, v ≠ s → v ≠ t → gone es g v = 0
  top : g.getD k.toNat 0 ≤ takes ∨ g.getD k.toNat 0 = usedOf k.toNat L
theorem CapInv.step {s t : Int} {es : List Arc} {f : List Int} {k takes : Int} {g : List Int} {p : Int × List Int} {L : List (Int × List Int)} (h : CapInv s t es f k takes g (p :: L)) (h0 : 0 ≤ k)
    (hp : Pc es p s t ∨ ∃ x, Pc es p x x) : CapInv s t es f k takes (capStep k takes g p) L := by
  obtain ⟨x, y, hP, hxy⟩ : ∃ x y, Pc es p x y ∧ ((x = s ∧ y = t) ∨ x = y) := by
    rcases hp with q | ⟨x, q⟩
    · exact ⟨s, t, q, .inl ⟨rfl, rfl⟩⟩
    · exact ⟨x, x, q, .inr rfl⟩
  have ha := hP.a1
  have hkn : ((k.toNat : Nat) : Int) = k := Int.toNat_of_nonneg h0
  have hlo := fun j hj => h.lo j hj
  simp only [usedOf] at hlo
  have htop := h.top
  simp only [usedOf] at htop
  rw [hkn] at htop
  unfold capStep
  by_cases hk : k ∈ p.2
  · rw [if_pos hk]
    rw [if_pos hk] at htop
    obtain ⟨a, hA⟩ : ∃ a, a = capLess k takes g p := ⟨_, rfl⟩
    have ha0 : 0 ≤ a ∧ a ≤ p.1 ∧ (g.getD k.toNat 0 ≤ takes → a = 0) ∧ (takes < g.getD k.toNat 0 → (a = p.1 ∧ p.1 ≤ g.getD k.toNat 0 - takes) ∨ a = g.getD k.toNat 0 - takes) := by
      rw [hA]; unfold capLess; omega
    rw [← hA]
    have hat := fun j => takeOff_at a (j := j) p.2 g hP.nd (fun q hq => by have := hP.kr q hq; have := h.len; omega)
    refine ⟨by rw [takeOff_len]; exact h.len, fun j hj => ?_, fun j hj => ?_, fun v v1 v2 => ?_, ?_⟩
    · rw [hat]
      have := hlo j hj
      by_cases c : (j : Int) ∈ p.2
      · rw [if_pos c] at this ⊢; omega
      · rw [if_neg c] at this ⊢; omega
    · rw [hat]
      have := h.hi j hj
      split <;> omega
    · rw [takeOff_gone a v p.2 g x y h.len hP.way, h.kept v v1 v2]
      rcases hxy with ⟨rfl, rfl⟩ | rfl
      · rw [if_neg (fun q => v1 q.symm), if_neg (fun q => v2 q.symm)]; rfl
      · omega
    · rw [hat, hkn, if_pos hk]
      obtain ⟨b1, b2, b3, b4⟩ := ha0
      by_cases c : g.getD k.toNat 0 ≤ takes
      · have := b3 c; left; omega
      · rcases b4 (by omega) with ⟨e, _⟩ | e
        · right
          rcases htop with q | q
          · exact absurd q c
          · omega
        · left; omega
  · rw [if_neg hk]
    rw [if_neg hk] at htop
    refine ⟨h.len, fun j hj => ?_, h.hi, h.kept, ?_⟩
    · have := hlo j hj
      split at this <;> omega
    · rcases htop with q | q
      · exact .inl q
      · right; omega
theorem usedOf_app (j : Nat) : ∀ (l m : List (Int × List Int)), usedOf j (l ++ m) = usedOf j l + usedOf j m
  | [], m => by simp [usedOf]
  | p :: r, m => by
    rw [List.cons_append]
    simp only [usedOf]
    rw [usedOf_app j r m]
    omega
theorem CapInv.start {n s t : Int} {es : List Arc} {f : List Int} {k takes : Int} {ways rounds : List (Int × List Int)} {e : Int} (hf : FlOk n s t es f) (hv : 0 ≤ gone es f s) (h : SplitOk n s t es f ways rounds e) (h1 : k.toNat < es.length) : CapInv s t es f k takes f (rounds ++ ways) := by
  have hE := flowErr_of hf hf.net.err
  obtain ⟨g1, g2⟩ := gone_ends hf
  rcases h with ⟨q, _⟩ | ⟨_, q, _⟩ | ⟨_, _, _, _, _, h3, _, _⟩
  · exact absurd hE q
  · omega
  · have hu : ∀ j, j < es.length → usedOf j (rounds ++ ways) = f.getD j 0 := fun j hj => by rw [usedOf_app]; have := h3 j hj; omega
    exact ⟨hf.fin.len, fun j hj => by rw [hu j hj]; exact Int.le_refl _, fun j _ => Int.le_refl _, fun v v1 v2 => g1 v v1 v2, .inr (hu _ h1).symm⟩
theorem setCap_len (es : List Arc) (k : Nat) (c : Int) : (setCap es k c).length = es.length := by unfold setCap; rw [List.length_set]
theorem setCap_at (es : List Arc) (k : Nat) (c : Int) (j : Nat) (hj : j < es.length) : (setCap es k c).getD j default = if k = j then ⟨(es.getD k default).src, (es.getD k default).dst, c⟩ else es.getD j default := by
  unfold setCap
  by_cases e : k = j
  · subst e; rw [if_pos rfl, getD_set_self _ _ _ _ hj]
  · rw [if_neg e, getD_set_ne _ _ _ _ _ e]
theorem gone_same {v : Int} : ∀ {es fs : List Arc} {f : List Int}, es.length = fs.length → (∀ j, j < es.length → (es.getD j default).src = (fs.getD j default).src ∧ (es.getD j default).dst = (fs.getD j default).dst) → gone es f v = gone fs f v
  | [], [], _, _, _ => rfl
  | [], _ :: _, _, h, _ => by simp at h
  | _ :: _, [], _, h, _ => by simp at h
  | a :: r, b :: q, [], _, _ => by simp [gone]
  | a :: r, b :: q, x :: g, h, hs => by
    have h0 := hs 0 (by simp)
    simp only [List.getD_cons_zero] at h0
    have ih := gone_same (es := r) (fs := q) (f := g) (v := v) (by simpa using h) fun j hj => by
      have := hs (j + 1) (by simp; omega)
      simpa using this
    simp only [gone]
    rw [ih, h0.1, h0.2]
theorem setCap_gone (es : List Arc) (k : Nat) (c : Int) (f : List Int) (v : Int) : gone (setCap es k c) f v = gone es f v :=
  gone_same (setCap_len es k c) fun j hj => by
    rw [setCap_len] at hj
    rw [setCap_at es k c j hj]
    split
    · rename_i e; subst e; exact ⟨rfl, rfl⟩
    · exact ⟨rfl, rfl⟩
theorem setCap_net {n s t c : Int} {es : List Arc} {k : Nat} (h : NOk n s t es) (hk : k < es.length) (h0 : 0 ≤ c) (h1 : c ≤ 10000) : NOk n s t (setCap es k c) :=
  ⟨⟨h.n1, h.n2, by rw [setCap_len]; exact h.len, fun a ha => by
    obtain ⟨j, hj, rfl⟩ := mem_getD default ha
    rw [setCap_len] at hj
    rw [setCap_at es k c j hj]
    split
    · obtain ⟨a1, a2, a3, a4, _, _⟩ := h.at_ hk
      exact ⟨a1, a2, a3, a4, h0, h1⟩
    · exact h.at_ hj⟩, h.s0, h.s1, h.t0, h.t1, h.ne⟩
theorem CapInv.end_ {n s t : Int} {es : List Arc} {f : List Int} {k takes : Int} {g : List Int} (h : CapInv s t es f k takes g []) (hf : FlOk n s t es f) (h0 : 0 ≤ k) (h1 : k < es.length) (ht0 : 0 ≤ takes) (ht1 : takes ≤ 10000) : FlOk n s t (setCap es k.toNat takes) g := by
  refine ⟨setCap_net hf.net (by omega) ht0 ht1, ⟨by rw [setCap_len]; exact h.len, fun j hj => ?_⟩, fun v v1 v2 => by rw [setCap_gone]; exact h.kept v v1 v2⟩
  rw [setCap_len] at hj
  have e1 := h.lo j hj
  have e2 := h.hi j hj
  have e3 := hf.fin.at_ j hj
  have e4 := h.top
  simp only [usedOf] at e1 e4
  rw [setCap_at es k.toNat takes j hj]
  split
  · rename_i e
    subst e
    simp only
    omega
  · omega
/-! ### An arc more -/
theorem gone_snoc {v : Int} (a : Arc) (x : Int) : ∀ {es : List Arc} {f : List Int}, f.length = es.length → gone (es ++ [a]) (f ++ [x]) v = gone es f v + ((if a.src = v then x else 0) - (if a.dst = v then x else 0))
  | [], [], _ => by simp [gone]
  | [], _ :: _, h => by simp at h
  | _ :: _, [], h => by simp at h
  | b :: r, y :: q, h => by
    rw [List.cons_append, List.cons_append]
    simp only [gone]
    rw [gone_snoc a x (es := r) (f := q) (by simpa using h)]
    omega
theorem add_flow {n s t : Int} {es : List Arc} {f : List Int} {a : Arc} (hf : FlOk n s t es f) (hn : NOk n s t (es ++ [a])) : FlOk n s t (es ++ [a]) (f ++ [0]) := by
  have hl := hf.fin.len
  refine ⟨hn, ⟨by simp [hl], fun j hj => ?_⟩, fun k k1 k2 => by rw [gone_snoc a 0 hl, hf.kept k k1 k2]; split <;> split <;> rfl⟩
  rw [List.length_append, List.length_singleton] at hj
  have hat := hn.at_ (i := j) (by rw [List.length_append, List.length_singleton]; exact hj)
  by_cases e : j < es.length
  · rw [getD_app_l _ _ _ _ (by omega), getD_app_l _ _ _ _ e]
    exact hf.fin.at_ j e
  · have e1 : j = f.length + 0 := by omega
    have e2 : (f ++ [0]).getD j 0 = 0 := by rw [e1, getD_app_r]; rfl
    rw [e2]
    exact ⟨Int.le_refl _, hat.2.2.2.2.1⟩
/-! ### An arc less -/
/-! ### Other ends -/
def roundStep (g : List Int) (p : Int × List Int) : List Int := takeOff (-p.1) g p.2
structure EndInv (es : List Arc) (g : List Int) (L : List (Int × List Int)) : Prop where
  len : g.length = es.length
  at_ : ∀ j, j < es.length → g.getD j 0 = usedOf j L
  kept : ∀ v, gone es g v = 0
theorem gone_zero (v : Int) : ∀ (es : List Arc) (m : Nat), gone es (List.replicate m 0) v = 0
  | [], _ => by simp [gone]
  | _ :: _, 0 => by simp [gone]
  | a :: r, m + 1 => by
    rw [List.replicate_succ]
    simp only [gone]
    rw [gone_zero v r m]
    split <;> split <;> rfl
theorem EndInv.start (es : List Arc) : EndInv es (List.replicate es.length 0) [] where
  len := by simp
  at_ j hj := by simp only [usedOf, List.getD_eq_getElem?_getD, List.getElem?_replicate]; split <;> rfl
  kept v := gone_zero v es es.length
theorem EndInv.step {es : List Arc} {g : List Int} {L : List (Int × List Int)} {p : Int × List Int} (h : EndInv es g L) (hp : ∃ x, Pc es p x x) : EndInv es (roundStep g p) (L ++ [p]) := by
  obtain ⟨x, hP⟩ := hp
  unfold roundStep
  refine ⟨by rw [takeOff_len]; exact h.len, fun j hj => ?_, fun v => ?_⟩
  · rw [takeOff_at _ _ _ hP.nd (fun q hq => by have := hP.kr q hq; have := h.len; omega), h.at_ j hj, usedOf_snoc]
    split <;> omega
  · rw [takeOff_gone _ v p.2 g x x h.len hP.way, h.kept v]
    omega
theorem EndInv.end_ {n s t s' t' : Int} {es : List Arc} {f g : List Int} {ways rounds : List (Int × List Int)} {e : Int} (h : EndInv es g rounds) (hf : FlOk n s t es f) (hv : 0 ≤ gone es f s) (hs : SplitOk n s t es f ways rounds e) (hn : NOk n s' t' es) : FlOk n s' t' es g := by
  have hE := flowErr_of hf hf.net.err
  rcases hs with ⟨q, _⟩ | ⟨_, q, _⟩ | ⟨_, _, _, h1, h2, h3, _, _⟩
  · exact absurd hE q
  · omega
  · refine ⟨hn, ⟨h.len, fun j hj => ?_⟩, fun v _ _ => h.kept v⟩
    have e1 := h3 j hj
    have e2 := usedOf_nonneg (es := es) j (l := rounds) (fun p hp => by obtain ⟨x, hx⟩ := h2 p hp; exact ⟨_, _, hx⟩)
    have e3 := usedOf_nonneg (es := es) j (l := ways) (fun p hp => ⟨_, _, h1 p hp⟩)
    have e4 := hf.fin.at_ j hj
    rw [h.at_ j hj]
    omega
end Go.Ab
