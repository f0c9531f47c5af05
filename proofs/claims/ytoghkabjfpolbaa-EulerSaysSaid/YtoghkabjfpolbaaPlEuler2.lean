/- Of trails that go along each arc once: whether there is one. -/
import Derived.Test.YtoghkabjfpolbaaPlEuler
namespace Go.Ab
def cntE (f : Arc → Int) : List Arc → Int → Int
  | [], _ => 0
  | a :: r, v => (if f a = v then 1 else 0) + cntE f r v
theorem cntE_snoc (f : Arc → Int) (a : Arc) (v : Int) : ∀ l : List Arc, cntE f (l ++ [a]) v = cntE f l v + if f a = v then 1 else 0
  | [] => by simp [cntE]
  | b :: r => by
    have := cntE_snoc f a v r
    simp only [List.cons_append, cntE, this]; omega
theorem cntE_take {f : Arc → Int} {es : List Arc} {i : Nat} (v : Int) (h : i < es.length) : cntE f (es.take (i + 1)) v = cntE f (es.take i) v + if f (es.getD i default) = v then 1 else 0 := by
  rw [List.take_add_one, List.getElem?_eq_getElem h, List.getD_eq_getElem?_getD, List.getElem?_eq_getElem h]
  exact cntE_snoc f _ v _
theorem cntE_pos {f : Arc → Int} : ∀ {es : List Arc} {v : Int}, 0 ≤ cntE f es v ∧ (0 < cntE f es v → ∃ k : Nat, k < es.length ∧ f (es.getD k default) = v)
  | [], v => ⟨Int.le_refl _, fun h => by simp [cntE] at h⟩
  | a :: r, v => by
    obtain ⟨h1, h2⟩ := cntE_pos (f := f) (es := r) (v := v)
    rw [cntE]
    by_cases q : f a = v
    · rw [if_pos q]; exact ⟨by omega, fun _ => ⟨0, by simp, by simpa using q⟩⟩
    · rw [if_neg q]
      refine ⟨by omega, fun h => ?_⟩
      obtain ⟨k, k1, k2⟩ := h2 (by omega)
      exact ⟨k + 1, by simpa using k1, by simpa using k2⟩
theorem cntE_at {f : Arc → Int} : ∀ {es : List Arc} {k : Nat}, k < es.length → 0 < cntE f es (f (es.getD k default))
  | a :: r, 0, _ => by
    have := (cntE_pos (f := f) (es := r) (v := f a)).1
    simp only [List.getD_cons_zero, cntE, if_true]; omega
  | a :: r, k + 1, h => by
    have := cntE_at (f := f) (es := r) (k := k) (by simpa using h)
    simp only [List.getD_cons_succ, cntE]
    split <;> omega
  | [], k, h => by simp at h
def bal0 (es : List Arc) (v : Int) : Int := cntE Arc.src es v - cntE Arc.dst es v
theorem bal_all : ∀ {es : List Arc} {us : List Bool} {v : Int}, us.length = es.length → (∀ k : Nat, k < es.length → us.getD k false = false) → bal es us v = bal0 es v
  | [], us, v, _, _ => by cases us <;> simp [bal, bal0, cntE]
  | a :: r, [], v, hl, _ => by simp at hl
  | a :: r, u :: q, v, hl, h => by
    have h1 := bal_all (es := r) (us := q) (v := v) (by simpa using hl) (fun k hk => by have := h (k + 1) (by simpa using hk); simpa using this)
    have h0 : u = false := by have := h 0 (by simp); simpa using this
    subst h0
    simp only [bal, h1, bal0, cntE, balA, Bool.false_eq_true, if_false]
    omega
theorem bump_fold (f : Arc → Int) (k : Nat) : ∀ (es : List Arc) (L : List Int), (∀ a ∈ es, 0 ≤ f a ∧ (f a).toNat < L.length) → (es.foldl (fun l a => l.set (f a).toNat (l.getD (f a).toNat 0 + 1)) L).getD k 0 = L.getD k 0 + cntE f es k
  | [], L, _ => by simp [cntE]
  | a :: r, L, h => by
    have ha := h a List.mem_cons_self
    rw [List.foldl_cons, bump_fold f k r _ (fun b hb => by rw [List.length_set]; exact h b (List.mem_cons_of_mem _ hb)), cntE]
    by_cases q : k = (f a).toNat
    · rw [q, getD_set_self _ _ _ _ ha.2, if_pos (by omega)]; omega
    · rw [getD_set_ne _ _ _ _ _ (Ne.symm q), if_neg (by omega)]; omega
theorem bump_cnt {f : Arc → Int} {n : Int} {es : List Arc} (h : ∀ a ∈ es, 0 ≤ f a ∧ f a < n) {k : Nat} (hk : (k : Int) < n) : (bump f n es).getD k 0 = cntE f es k := by
  unfold bump
  rw [bump_fold f k es _ (fun a ha => by have := h a ha; rw [List.length_replicate]; omega), getD_lt (List.replicate n.toNat (0 : Int)) 0 k (by rw [List.length_replicate]; omega)]
  simp
theorem degs {n : Int} {es : List Arc} (hA : InR n es) {k : Nat} (hk : (k : Int) < n) : (bump Arc.src n es).getD k 0 = cntE Arc.src es k ∧ (bump Arc.dst n es).getD k 0 = cntE Arc.dst es k :=
  ⟨bump_cnt (fun a ha => by obtain ⟨h1, h2, _, _⟩ := hA a ha; exact ⟨h1, h2⟩) hk, bump_cnt (fun a ha => by obtain ⟨_, _, h3, h4⟩ := hA a ha; exact ⟨h3, h4⟩) hk⟩
theorem cntE_far {f : Arc → Int} {es : List Arc} {v : Int} (h : ∀ a ∈ es, f a ≠ v) : cntE f es v = 0 := by
  have h1 := cntE_pos (f := f) (es := es) (v := v)
  rcases Int.lt_or_le 0 (cntE f es v) with q | q
  · obtain ⟨k, k1, k2⟩ := h1.2 q
    exact absurd k2 (h _ (getD_mem k1))
  · omega
theorem bal0_far {n : Int} {es : List Arc} (hA : InR n es) {v : Int} (hv : v < 0 ∨ n ≤ v) : bal0 es v = 0 := by
  unfold bal0
  rw [cntE_far (fun a ha => by obtain ⟨h1, h2, _, _⟩ := hA a ha; omega), cntE_far (fun a ha => by obtain ⟨_, _, h3, h4⟩ := hA a ha; omega)]; rfl
/-! ### All differences together -/
def sum12 (g : Nat → Int) : Int := g 0 + g 1 + g 2 + g 3 + g 4 + g 5 + g 6 + g 7 + g 8 + g 9 + g 10 + g 11
theorem sum12_one {s : Int} (h0 : 0 ≤ s) (h1 : s < 12) : sum12 (fun v => if s = (v : Int) then 1 else 0) = 1 := by
  obtain ⟨m, rfl⟩ : ∃ m : Nat, s = m := ⟨s.toNat, by omega⟩
  have : m < 12 := by omega
  match m, this with
  | 0, _ => decide
  | 1, _ => decide
  | 2, _ => decide
  | 3, _ => decide
  | 4, _ => decide
  | 5, _ => decide
  | 6, _ => decide
  | 7, _ => decide
  | 8, _ => decide
  | 9, _ => decide
  | 10, _ => decide
  | 11, _ => decide
theorem sum12_add (g h : Nat → Int) : sum12 (fun v => g v + h v) = sum12 g + sum12 h := by dsimp only [sum12]; omega
theorem sum12_sub (g h : Nat → Int) : sum12 (fun v => g v - h v) = sum12 g - sum12 h := by dsimp only [sum12]; omega
theorem sum12_cnt {f : Arc → Int} : ∀ {es : List Arc}, (∀ a ∈ es, 0 ≤ f a ∧ f a < 12) → sum12 (fun v => cntE f es v) = es.length
  | [], _ => by simp [cntE, sum12]
  | a :: r, h => by
    have h1 := sum12_cnt (f := f) (es := r) (fun b hb => h b (List.mem_cons_of_mem _ hb))
    have h2 := h a List.mem_cons_self
    have h3 := sum12_add (fun v => if f a = (v : Int) then 1 else 0) (fun v => cntE f r v)
    rw [sum12_one h2.1 h2.2, h1] at h3
    simp only [cntE]
    rw [h3, List.length_cons]; omega
theorem sum12_bal {n : Int} {es : List Arc} (hA : InR n es) (h12 : n ≤ 12) : sum12 (fun v => bal0 es v) = 0 := by
  have h1 := sum12_cnt (f := Arc.src) (es := es) (fun a ha => by obtain ⟨h1, h2, _, _⟩ := hA a ha; omega)
  have h2 := sum12_cnt (f := Arc.dst) (es := es) (fun a ha => by obtain ⟨_, _, h3, h4⟩ := hA a ha; omega)
  have h3 := sum12_sub (fun v => cntE Arc.src es v) (fun v => cntE Arc.dst es v)
  show sum12 (fun v => cntE Arc.src es v - cntE Arc.dst es v) = 0
  rw [h3, h1, h2]; omega
/-! ### The kind -/
def small1 (es : List Arc) (k : Nat) : Bool := decide (-1 ≤ bal0 es k ∧ bal0 es k ≤ 1)
def cntK (es : List Arc) (c : Int) (m : Nat) : Nat := (List.range m).countP fun (k : Nat) => decide (bal0 es k = c)
theorem cntK_step (es : List Arc) (c : Int) (m : Nat) : cntK es c (m + 1) = cntK es c m + if bal0 es m = c then 1 else 0 := by
  unfold cntK
  rw [List.range_succ, List.countP_append, List.countP_cons, List.countP_nil]
  by_cases h : bal0 es m = c
  · rw [if_pos h, if_pos (decide_eq_true h)]
  · rw [if_neg h, if_neg (by rw [decide_eq_false h]; decide)]
theorem cntK_le (es : List Arc) (c : Int) (m : Nat) : cntK es c m ≤ m := by
  have := List.countP_le_length (p := fun (k : Nat) => decide (bal0 es k = c)) (l := List.range m)
  simpa [cntK] using this
def oneP (J : List Int) (es : List Arc) : Bool := es.all fun a => decide (J.getD a.src.toNat 0 = J.getD (es.getD 0 default).src.toNat 0)
theorem oneP_yes {J : List Int} {es : List Arc} (h : ∀ k : Nat, k < es.length → J.getD (es.getD k default).src.toNat 0 = J.getD (es.getD 0 default).src.toNat 0) : oneP J es = true := by
  refine List.all_eq_true.2 fun a ha => ?_
  obtain ⟨k, hk, rfl⟩ := List.mem_iff_getElem.1 ha
  have := h k hk
  have hg : es.getD k default = es[k] := by simp [List.getD_eq_getElem?_getD, List.getElem?_eq_getElem hk]
  rw [hg] at this
  exact decide_eq_true this
theorem oneP_no {J : List Int} {es : List Arc} {k : Nat} (hk : k < es.length) (h : J.getD (es.getD k default).src.toNat 0 ≠ J.getD (es.getD 0 default).src.toNat 0) : oneP J es = false := by
  cases e : oneP J es
  · rfl
  · have := List.all_eq_true.1 e _ (getD_mem (d := default) hk)
    exact absurd (of_decide_eq_true this) h
theorem oneP_at {J : List Int} {es : List Arc} (h : oneP J es = true) {k : Nat} (hk : k < es.length) : J.getD (es.getD k default).src.toNat 0 = J.getD (es.getD 0 default).src.toNat 0 :=
  of_decide_eq_true (List.all_eq_true.1 h _ (getD_mem (d := default) hk))
def kindOf (n : Int) (es : List Arc) : Int :=
  if (List.range n.toNat).all (small1 es) = true then (if oneP (joinedOf n es) es = true then (if cntK es 1 n.toNat = 0 then 2 else if cntK es 1 n.toNat = 1 ∧ cntK es (-1) n.toNat = 1 then 1 else 0) else 0) else 0
theorem small_no {es : List Arc} {m k : Nat} (hk : k < m) (h : small1 es k = false) : (List.range m).all (small1 es) = false := by
  cases e : (List.range m).all (small1 es)
  · rfl
  · have := List.all_eq_true.1 e k (List.mem_range.2 hk)
    rw [h] at this; cases this
theorem small_yes {es : List Arc} {m : Nat} (h : ∀ k, k < m → small1 es k = true) : (List.range m).all (small1 es) = true := List.all_eq_true.2 fun k hk => h k (List.mem_range.1 hk)
/-- The kind, by the sorted differences. -/
def kindS (J : List Int) (es : List Arc) (L : List Int) : Int := if oneP J es = true then (if L.getD 0 0 = 0 ∧ L.getD 11 0 = 0 then 2 else if L.getD 0 0 = -1 ∧ L.getD 11 0 = 1 ∧ L.getD 1 0 = 0 ∧ L.getD 10 0 = 0 then 1 else 0) else 0
def allBal (es : List Arc) : List Int := (List.range 12).map fun (k : Nat) => bal0 es k
theorem allBal_is {D : List Int} {es : List Arc} (h1 : D.length = 12) (h2 : ∀ k : Nat, k < 12 → D.getD k 0 = bal0 es k) : D = allBal es :=
  list_ext 0 (by rw [h1]; simp [allBal]) fun k hk => by
    rw [h2 k (by omega), getD_lt (allBal es) 0 k (by simp [allBal]; omega)]; simp [allBal]
theorem kind_eq {n : Int} {es : List Arc} (hA : InR n es) (h0 : 0 ≤ n) (h12 : n ≤ 12) : kindS (joinedOf n es) es (sorted (allBal es)) = kindOf n es := by
  have hsum := sum12_bal hA h12
  have hperm := sorted_perm (allBal es)
  have hle := sorted_le (allBal es)
  have hlen : (sorted (allBal es)).length = 12 := by rw [sorted_len]; simp [allBal]
  have hmem : ∀ x, x ∈ sorted (allBal es) ↔ ∃ k : Nat, k < 12 ∧ bal0 es k = x := fun x => by
    rw [hperm.mem_iff]; simp only [allBal, List.mem_map, List.mem_range]
  have hcnt : ∀ c : Int, (sorted (allBal es)).countP (fun x => decide (x = c)) = cntK es c 12 := fun c => by
    rw [hperm.countP_eq, allBal, List.countP_map]; rfl
  have hcn : ∀ c : Int, c ≠ 0 → cntK es c 12 = cntK es c n.toNat := fun c hc => by
    have key : ∀ m : Nat, n.toNat ≤ m → cntK es c m = cntK es c n.toNat := by
      intro m hm
      induction m with
      | zero => rw [show n.toNat = 0 by omega]
      | succ m ih =>
        by_cases q : n.toNat = m + 1
        · rw [q]
        · rw [cntK_step, ih (by omega), bal0_far hA (v := (m : Int)) (by omega), if_neg (Ne.symm hc), Nat.add_zero]
    exact key 12 (by omega)
  have hsm : (List.range n.toNat).all (small1 es) = true ↔ ∀ x ∈ sorted (allBal es), -1 ≤ x ∧ x ≤ 1 := by
    constructor
    · intro h x hx
      obtain ⟨k, hk, rfl⟩ := (hmem x).1 hx
      by_cases q : k < n.toNat
      · exact of_decide_eq_true (List.all_eq_true.1 h k (List.mem_range.2 q))
      · rw [bal0_far hA (by omega)]; omega
    · intro h
      exact small_yes fun k hk => decide_eq_true (h _ ((hmem _).2 ⟨k, by omega, rfl⟩))
  generalize sorted (allBal es) = L at hperm hle hlen hmem hcnt hsm ⊢
  unfold kindS kindOf
  rw [← hcn 1 (by decide), ← hcn (-1) (by decide), ← hcnt 1, ← hcnt (-1)]
  match L, hlen with
  | [a0, a1, a2, a3, a4, a5, a6, a7, a8, a9, a10, a11], _ =>
    have hmono : a0 ≤ a1 ∧ a1 ≤ a2 ∧ a2 ≤ a3 ∧ a3 ≤ a4 ∧ a4 ≤ a5 ∧ a5 ≤ a6 ∧ a6 ≤ a7 ∧ a7 ≤ a8 ∧ a8 ≤ a9 ∧ a9 ≤ a10 ∧ a10 ≤ a11 := by
      simp only [List.pairwise_cons, List.mem_cons] at hle
      obtain ⟨p0, p1, p2, p3, p4, p5, p6, p7, p8, p9, p10, _⟩ := hle
      exact ⟨p0 _ (.inl rfl), p1 _ (.inl rfl), p2 _ (.inl rfl), p3 _ (.inl rfl), p4 _ (.inl rfl), p5 _ (.inl rfl), p6 _ (.inl rfl), p7 _ (.inl rfl), p8 _ (.inl rfl), p9 _ (.inl rfl), p10 _ (.inl rfl)⟩
    have hin : ∀ k : Nat, k < 12 → a0 ≤ bal0 es k ∧ bal0 es k ≤ a11 := by
      intro k hk
      have := (hmem (bal0 es k)).2 ⟨k, hk, rfl⟩
      simp only [List.mem_cons, List.mem_nil_iff, or_false] at this
      omega
    have hsm' : (List.range n.toNat).all (small1 es) = true ↔ -1 ≤ a0 ∧ a11 ≤ 1 := by
      rw [hsm]
      constructor
      · intro h; exact ⟨(h a0 (by simp)).1, (h a11 (by simp)).2⟩
      · intro h x hx
        simp only [List.mem_cons, List.mem_nil_iff, or_false] at hx
        omega
    have hN : ∀ N1 N2 : Nat, [a0, a1, a2, a3, a4, a5, a6, a7, a8, a9, a10, a11].countP (fun x => decide (x = 1)) = N1 → [a0, a1, a2, a3, a4, a5, a6, a7, a8, a9, a10, a11].countP (fun x => decide (x = -1)) = N2 → -1 ≤ a0 ∧ a11 ≤ 1 →
        (a11 = 1 → N1 ≠ 0) ∧ (a11 ≤ 0 → N1 = 0) ∧ (a0 = -1 ∧ a11 = 1 ∧ a1 = 0 ∧ a10 = 0 → N1 = 1 ∧ N2 = 1) ∧ (N1 = 1 → a11 = 1 → a10 ≠ 1) ∧ (N2 = 1 → a1 ≠ -1 ∧ a0 = -1) := by
      intro N1 N2 e1 e2 hb
      simp only [List.countP_cons, List.countP_nil, decide_eq_true_eq] at e1 e2
      refine ⟨fun h => ?_, fun h => ?_, fun c2 => ?_, fun h h11 q => ?_, fun h => ?_⟩
      · rw [if_pos h] at e1; omega
      · simp only [show a0 ≠ 1 by omega, show a1 ≠ 1 by omega, show a2 ≠ 1 by omega, show a3 ≠ 1 by omega, show a4 ≠ 1 by omega, show a5 ≠ 1 by omega, show a6 ≠ 1 by omega, show a7 ≠ 1 by omega, show a8 ≠ 1 by omega, show a9 ≠ 1 by omega, show a10 ≠ 1 by omega, show a11 ≠ 1 by omega, if_false] at e1
        omega
      · obtain ⟨c20, c21, c22, c23⟩ := c2
        simp only [show a0 ≠ 1 by omega, show a1 ≠ 1 by omega, show a2 ≠ 1 by omega, show a3 ≠ 1 by omega, show a4 ≠ 1 by omega, show a5 ≠ 1 by omega, show a6 ≠ 1 by omega, show a7 ≠ 1 by omega, show a8 ≠ 1 by omega, show a9 ≠ 1 by omega, show a10 ≠ 1 by omega, if_pos c21, if_false] at e1
        simp only [if_pos c20, show a1 ≠ -1 by omega, show a2 ≠ -1 by omega, show a3 ≠ -1 by omega, show a4 ≠ -1 by omega, show a5 ≠ -1 by omega, show a6 ≠ -1 by omega, show a7 ≠ -1 by omega, show a8 ≠ -1 by omega, show a9 ≠ -1 by omega, show a10 ≠ -1 by omega, show a11 ≠ -1 by omega, if_false] at e2
        omega
      · rw [if_pos q, if_pos h11] at e1; omega
      · constructor
        · intro q; rw [if_pos q, if_pos (show a0 = -1 by omega)] at e2; omega
        · rcases Int.lt_or_le a0 0 with q | q
          · omega
          · exfalso
            simp only [show a0 ≠ -1 by omega, show a1 ≠ -1 by omega, show a2 ≠ -1 by omega, show a3 ≠ -1 by omega, show a4 ≠ -1 by omega, show a5 ≠ -1 by omega, show a6 ≠ -1 by omega, show a7 ≠ -1 by omega, show a8 ≠ -1 by omega, show a9 ≠ -1 by omega, show a10 ≠ -1 by omega, show a11 ≠ -1 by omega, if_false] at e2
            omega
    by_cases hone : oneP (joinedOf n es) es = true
    · rw [if_pos hone, if_pos hone]
      simp only [List.getD_cons_zero, List.getD_cons_succ]
      generalize hN1 : [a0, a1, a2, a3, a4, a5, a6, a7, a8, a9, a10, a11].countP (fun x => decide (x = 1)) = N1
      generalize hN2 : [a0, a1, a2, a3, a4, a5, a6, a7, a8, a9, a10, a11].countP (fun x => decide (x = -1)) = N2
      by_cases hb : -1 ≤ a0 ∧ a11 ≤ 1
      · obtain ⟨f1, f2, f3, f4, f5⟩ := hN N1 N2 hN1 hN2 hb
        rw [if_pos (hsm'.2 hb)]
        have hz : a11 ≤ 0 → a0 = 0 ∧ a11 = 0 := by
          intro h
          have h0 := hin 0 (by decide); have h1 := hin 1 (by decide); have h2 := hin 2 (by decide); have h3 := hin 3 (by decide); have h4 := hin 4 (by decide); have h5 := hin 5 (by decide)
          have h6 := hin 6 (by decide); have h7 := hin 7 (by decide); have h8 := hin 8 (by decide); have h9 := hin 9 (by decide); have h10 := hin 10 (by decide); have h11 := hin 11 (by decide)
          obtain ⟨k, hk, e⟩ := (hmem a0).1 (by simp)
          obtain ⟨k', hk', e'⟩ := (hmem a11).1 (by simp)
          dsimp only [sum12] at hsum
          have hk2 : bal0 es k = 0 := by
            have : k = 0 ∨ k = 1 ∨ k = 2 ∨ k = 3 ∨ k = 4 ∨ k = 5 ∨ k = 6 ∨ k = 7 ∨ k = 8 ∨ k = 9 ∨ k = 10 ∨ k = 11 := by omega
            rcases this with rfl | rfl | rfl | rfl | rfl | rfl | rfl | rfl | rfl | rfl | rfl | rfl <;> omega
          have hk3 : bal0 es k' = 0 := by
            have : k' = 0 ∨ k' = 1 ∨ k' = 2 ∨ k' = 3 ∨ k' = 4 ∨ k' = 5 ∨ k' = 6 ∨ k' = 7 ∨ k' = 8 ∨ k' = 9 ∨ k' = 10 ∨ k' = 11 := by omega
            rcases this with rfl | rfl | rfl | rfl | rfl | rfl | rfl | rfl | rfl | rfl | rfl | rfl <;> omega
          omega
        by_cases c1 : a0 = 0 ∧ a11 = 0
        · rw [if_pos c1, if_pos (f2 (by omega))]
        · have h11 : a11 = 1 := by
            rcases Int.lt_or_le a11 1 with q | q
            · exact absurd (hz (by omega)) c1
            · omega
          rw [if_neg c1]
          by_cases c2 : a0 = -1 ∧ a11 = 1 ∧ a1 = 0 ∧ a10 = 0
          · rw [if_pos c2, if_neg (f1 h11), if_pos (f3 c2)]
          · have h3 : ¬ (N1 = 1 ∧ N2 = 1) := by
              rintro ⟨e1, e2⟩
              have := f4 e1 h11
              have := f5 e2
              exact c2 (by omega)
            rw [if_neg c2, if_neg (f1 h11), if_neg h3]
      · rw [if_neg (fun q => hb (hsm'.1 q)), if_neg (by omega), if_neg (by omega)]
    · rw [if_neg hone, if_neg hone]
      split <;> rfl
/-! ### Where it begins -/
def selP (n : Int) (es : List Arc) (kd : Int) (j : Nat) : Prop := (kd = 2 ∧ 0 < (bump Arc.src n es).getD j 0) ∨ (bump Arc.dst n es).getD j 0 < (bump Arc.src n es).getD j 0
def SelOk (n : Int) (es : List Arc) (kd st k : Int) : Prop := (st = 0 ∧ ∀ j : Nat, k < j → (j : Int) < n → ¬ selP n es kd j) ∨ (k < st ∧ st < n ∧ 0 ≤ st ∧ selP n es kd st.toNat)
theorem SelOk.yes {n : Int} {es : List Arc} {kd st k : Int} (h0 : 0 ≤ k) (h1 : k < n) (hp : selP n es kd k.toNat) : SelOk n es kd k (k - 1) := .inr ⟨by omega, h1, h0, hp⟩
theorem SelOk.no {n : Int} {es : List Arc} {kd st k : Int} (h : SelOk n es kd st k) (_h0 : 0 ≤ k) (hp : ¬ selP n es kd k.toNat) : SelOk n es kd st (k - 1) := by
  rcases h with ⟨h1, h2⟩ | ⟨h1, h2⟩
  · refine .inl ⟨h1, fun j hj hjn => ?_⟩
    by_cases q : (j : Int) = k
    · rw [show j = k.toNat by omega]; exact hp
    · exact h2 j (by omega) hjn
  · exact .inr ⟨by omega, h2⟩
structure Begins (n : Int) (es : List Arc) (kd st f : Int) : Prop where
  bl : ∀ v, bal0 es v = (if v = st then 1 else 0) - (if v = f then 1 else 0)
  out : 0 < es.length → ∃ k : Nat, k < es.length ∧ (es.getD k default).src = st
  round : kd = 2 → st = f
  join : ∀ k : Nat, k < es.length → (joinedOf n es).getD (es.getD k default).src.toNat 0 = (joinedOf n es).getD st.toNat 0
theorem cntK_one {es : List Arc} {c : Int} : ∀ {m : Nat}, cntK es c m = 1 → ∃ k, k < m ∧ bal0 es k = c ∧ ∀ j, j < m → bal0 es j = c → j = k
  | 0, h => by simp [cntK] at h
  | m + 1, h => by
    rw [cntK_step] at h
    by_cases q : bal0 es m = c
    · rw [if_pos q] at h
      have h0 : cntK es c m = 0 := by omega
      refine ⟨m, by omega, q, fun j hj e => ?_⟩
      rcases Nat.lt_succ_iff_lt_or_eq.1 hj with hj | hj
      · have := List.countP_eq_zero.1 h0 j (List.mem_range.2 hj)
        exact absurd (decide_eq_true e) this
      · exact hj
    · rw [if_neg q] at h
      obtain ⟨k, k1, k2, k3⟩ := cntK_one (m := m) (by omega)
      refine ⟨k, by omega, k2, fun j hj e => ?_⟩
      rcases Nat.lt_succ_iff_lt_or_eq.1 hj with hj | hj
      · exact k3 j hj e
      · rw [hj] at e; exact absurd e q
theorem cntK_zero {es : List Arc} {c : Int} {m : Nat} (h : cntK es c m = 0) {k : Nat} (hk : k < m) : bal0 es k ≠ c := fun e => by
  have := List.countP_eq_zero.1 h k (List.mem_range.2 hk)
  exact absurd (decide_eq_true e) this
theorem begins {n : Int} {es : List Arc} {st : Int} (hA : InR n es) (h1 : 1 ≤ n) (h12 : n ≤ 12) (hk : kindOf n es ≠ 0) (hs : SelOk n es (kindOf n es) st (-1)) : 0 ≤ st ∧ st < n ∧ ∃ f, Begins n es (kindOf n es) st f := by
  have hst : 0 ≤ st ∧ st < n := by rcases hs with ⟨e, _⟩ | ⟨e1, e2, e3, _⟩ <;> omega
  refine ⟨hst.1, hst.2, ?_⟩
  have hdeg : ∀ j : Nat, (j : Int) < n → (bump Arc.src n es).getD j 0 - (bump Arc.dst n es).getD j 0 = bal0 es j := fun j hj => by obtain ⟨d1, d2⟩ := degs hA hj; rw [d1, d2]; rfl
  have hone : oneP (joinedOf n es) es = true := by
    unfold kindOf at hk
    split at hk
    · split at hk
      · assumption
      · exact absurd rfl hk
    · exact absurd rfl hk
  have hsm : (List.range n.toNat).all (small1 es) = true := by
    unfold kindOf at hk
    split at hk
    · assumption
    · exact absurd rfl hk
  have hkd : kindOf n es = if cntK es 1 n.toNat = 0 then 2 else if cntK es 1 n.toNat = 1 ∧ cntK es (-1) n.toNat = 1 then 1 else 0 := by rw [kindOf, if_pos hsm, if_pos hone]
  have hjoin : ∀ k0 : Nat, k0 < es.length → (es.getD k0 default).src = st → ∀ k : Nat, k < es.length → (joinedOf n es).getD (es.getD k default).src.toNat 0 = (joinedOf n es).getD st.toNat 0 := fun k0 hk0 e k hk => by
    rw [oneP_at hone hk, ← e, oneP_at hone hk0]
  have hsmall : ∀ j : Nat, (j : Int) < n → -1 ≤ bal0 es j ∧ bal0 es j ≤ 1 := fun j hj => of_decide_eq_true (List.all_eq_true.1 hsm j (List.mem_range.2 (by omega)))
  by_cases c : cntK es 1 n.toNat = 0
  · rw [if_pos c] at hkd
    -- all are even
    have hz : ∀ v, bal0 es v = 0 := by
      intro v
      have hle : ∀ j : Nat, j < 12 → bal0 es j ≤ 0 := fun j hj => by
        by_cases q : (j : Int) < n
        · have := hsmall j q
          have := cntK_zero c (k := j) (by omega)
          omega
        · rw [bal0_far hA (by omega)]; omega
      have hsum := sum12_bal hA h12
      dsimp only [sum12] at hsum
      have h0 := hle 0 (by decide); have h1 := hle 1 (by decide); have h2 := hle 2 (by decide); have h3 := hle 3 (by decide); have h4 := hle 4 (by decide); have h5 := hle 5 (by decide)
      have h6 := hle 6 (by decide); have h7 := hle 7 (by decide); have h8 := hle 8 (by decide); have h9 := hle 9 (by decide); have h10 := hle 10 (by decide); have h11 := hle 11 (by decide)
      rcases Int.lt_or_le v 0 with q | q
      · exact bal0_far hA (.inl q)
      · rcases Int.lt_or_le v 12 with q2 | q2
        · obtain ⟨k, rfl⟩ : ∃ k : Nat, v = k := ⟨v.toNat, by omega⟩
          have : k = 0 ∨ k = 1 ∨ k = 2 ∨ k = 3 ∨ k = 4 ∨ k = 5 ∨ k = 6 ∨ k = 7 ∨ k = 8 ∨ k = 9 ∨ k = 10 ∨ k = 11 := by omega
          rcases this with rfl | rfl | rfl | rfl | rfl | rfl | rfl | rfl | rfl | rfl | rfl | rfl <;> omega
        · exact bal0_far hA (.inr (by omega))
    have hout : 0 < es.length → ∃ k : Nat, k < es.length ∧ (es.getD k default).src = st := by
      intro hm
      have h00 := hA _ (getD_mem (d := default) hm)
      have hin0 := cntE_at (f := Arc.src) hm
      rcases hs with ⟨_, hno⟩ | ⟨_, e2, e3, hp⟩
      · exfalso
        refine hno (es.getD 0 default).src.toNat (by omega) (by omega) (.inl ⟨hkd, ?_⟩)
        rw [(degs hA (by omega)).1, Int.toNat_of_nonneg h00.1]; exact hin0
      · have hpos : 0 < cntE Arc.src es st := by
          rcases hp with ⟨_, hp⟩ | hp
          · rw [(degs hA (by omega)).1, Int.toNat_of_nonneg e3] at hp; exact hp
          · have := hdeg st.toNat (by omega)
            rw [Int.toNat_of_nonneg e3, hz] at this; omega
        exact (cntE_pos (f := Arc.src) (es := es) (v := st)).2 hpos
    exact ⟨st, fun v => by rw [hz]; omega, hout, fun _ => rfl, fun k hk => by obtain ⟨k0, a, b⟩ := hout (by omega); exact hjoin k0 a b k hk⟩
  · rw [if_neg c] at hkd
    by_cases c2 : cntK es 1 n.toNat = 1 ∧ cntK es (-1) n.toNat = 1
    · rw [if_pos c2] at hkd
      obtain ⟨a, a1, a2, a3⟩ := cntK_one c2.1
      obtain ⟨b, b1, b2, b3⟩ := cntK_one c2.2
      have hsta : st = a := by
        rcases hs with ⟨_, hno⟩ | ⟨_, e2, e3, hp⟩
        · exfalso
          refine hno a (by omega) (by omega) (.inr ?_)
          have := hdeg a (by omega); omega
        · rcases hp with ⟨e, _⟩ | hp
          · omega
          · have h3 := hdeg st.toNat (by omega)
            have h4 := hsmall st.toNat (by omega)
            have := a3 st.toNat (by omega) (by omega)
            omega
      refine ⟨b, fun v => ?_, fun _ => ?_, fun e => by omega, ?_⟩
      · rcases Int.lt_or_le v 0 with q | q
        · rw [bal0_far hA (.inl q), if_neg (by omega), if_neg (by omega)]; rfl
        · rcases Int.lt_or_le v n with q2 | q2
          · obtain ⟨k, rfl⟩ : ∃ k : Nat, v = k := ⟨v.toNat, by omega⟩
            have hk := hsmall k q2
            by_cases e1 : k = a
            · have hab : a ≠ b := by intro e; rw [e, b2] at a2; omega
              rw [e1, a2, if_pos (by omega), if_neg (by omega)]; rfl
            · by_cases e2 : k = b
              · rw [e2, b2, if_neg (by omega), if_pos rfl]; rfl
              · have h5 : bal0 es k ≠ 1 := fun e => e1 (a3 k (by omega) e)
                have h6 : bal0 es k ≠ -1 := fun e => e2 (b3 k (by omega) e)
                rw [if_neg (by omega), if_neg (by omega)]; omega
          · rw [bal0_far hA (.inr q2), if_neg (by omega), if_neg (by omega)]; rfl
      all_goals
        have hpos : 0 < cntE Arc.src es st := by
          have h7 := (cntE_pos (f := Arc.dst) (es := es) (v := st)).1
          rw [hsta] at h7 ⊢
          unfold bal0 at a2; omega
        have hex := (cntE_pos (f := Arc.src) (es := es) (v := st)).2 hpos
      · exact hex
      · intro k hk
        obtain ⟨k0, q1, q2⟩ := hex
        exact hjoin k0 q1 q2 k hk
    · rw [if_neg c2] at hkd; exact absurd hkd hk
def srcIs (v : Int) (a : Arc) : Bool := decide (a.src = v)
def TrailOk (es : List Arc) (kd : Int) (w : List Int) : Prop := ∃ s f, isFull es.length w ∧ chainE es s w f ∧ (kd = 2 → s = f)
theorem Eul.popI {es : List Arc} {s f : Int} {us : List Bool} {dn op : List Int} {at_ base : Int} (h : Eul es s f us dn op at_ base) (hst : stuck es us at_) {m : Nat} (hm : m + 1 = op.length) :
    Eul es s f us (dn ++ [op.getD m 0]) (op.take m) (es.getD (op.getD m 0).toNat default).src (es.getD (op.getD m 0).toNat default).src := by
  have he : op = op.take m ++ [op.getD m 0] := by
    have h1 : op.take (m + 1) = op.take m ++ [op.getD m 0] := by
      rw [List.take_add_one, List.getElem?_eq_getElem (by omega), List.getD_eq_getElem?_getD, List.getElem?_eq_getElem (by omega)]; rfl
    rw [List.take_of_length_le (by omega)] at h1
    exact h1
  refine Eul.pop (x := op.getD m 0) (at_ := at_) (base := base) ?_ hst
  rw [← he]; exact h
theorem count_false : ∀ {us : List Bool} {k : Nat}, k < us.length → us.getD k false = false → (us.set k true).count false + 1 = us.count false
  | u :: r, 0, _, h => by
    have : u = false := by simpa using h
    subst this; simp
  | u :: r, k + 1, hk, h => by
    have := count_false (us := r) (k := k) (by simpa using hk) (by simpa using h)
    simp only [List.set_cons_succ, List.count_cons]
    omega
  | [], k, hk, _ => by simp at hk
def Next1 (es : List Arc) (us : List Bool) (at_ k : Int) : Prop := (k = -1 ∧ stuck es us at_) ∨ (0 ≤ k ∧ k < es.length ∧ ∀ j : Nat, (j : Int) < k → us.getD j false = false → (es.getD j default).src ≠ at_)
theorem next_start {es : List Arc} {us : List Bool} {at_ : Int} : Next1 es us at_ (idxOf (srcIs at_) es) := by
  have hg := idxOf_ge (p := srcIs at_) (l := es)
  rcases Int.lt_or_le (idxOf (srcIs at_) es) 0 with q | q
  · refine .inl ⟨by omega, fun j hj _ e => ?_⟩
    have hany : es.any (srcIs at_) = true := any_at (d := default) hj (decide_eq_true e)
    rw [← any_idx] at hany
    have := of_decide_eq_true hany
    omega
  · refine .inr ⟨q, hg.2, fun j hj _ e => ?_⟩
    -- the first place
    have key : ∀ {l : List Arc} {j : Nat}, (j : Int) < idxOf (srcIs at_) l → srcIs at_ (l.getD j default) = false := by
      intro l
      induction l with
      | nil => intro j hj; simp [idxOf] at hj; omega
      | cons y r ih =>
        intro j hj
        rw [idxOf] at hj
        split at hj
        · omega
        · rename_i hy
          split at hj
          · omega
          · cases j with
            | zero => simpa using hy
            | succ j => simpa using ih (j := j) (by omega)
    have := key hj
    rw [srcIs, decide_eq_true e] at this; cases this
theorem next_end {es : List Arc} {us : List Bool} {at_ k : Int} (h : Next1 es us at_ k) (h0 : 0 ≤ k) (hn : us.getD k.toNat false = true ∨ (es.getD k.toNat default).src ≠ at_) (he : k + 1 = es.length) : Next1 es us at_ (-1) := by
  rcases h with ⟨h1, _⟩ | ⟨_, _, h3⟩
  · omega
  · refine .inl ⟨rfl, fun j hj hu e => ?_⟩
    by_cases q : (j : Int) < k
    · exact h3 j q hu e
    · have : j = k.toNat := by omega
      subst this
      rcases hn with hn | hn
      · rw [hn] at hu; cases hu
      · exact hn e
theorem next_step {es : List Arc} {us : List Bool} {at_ k : Int} (h : Next1 es us at_ k) (h0 : 0 ≤ k) (hn : us.getD k.toNat false = true ∨ (es.getD k.toNat default).src ≠ at_) (he : k + 1 ≠ es.length) : Next1 es us at_ (k + 1) := by
  rcases h with ⟨h1, _⟩ | ⟨_, h2, h3⟩
  · omega
  · refine .inr ⟨by omega, by omega, fun j hj hu e => ?_⟩
    by_cases q : (j : Int) < k
    · exact h3 j q hu e
    · have : j = k.toNat := by omega
      subst this
      rcases hn with hn | hn
      · rw [hn] at hu; cases hu
      · exact hn e
/-! ### The differences, counted -/
theorem join_in {n : Int} {es : List Arc} (h12 : n ≤ 12) (hA : InR n es) {v : Nat} (hv : (v : Int) < n) : 0 ≤ (joinedOf n es).getD v 0 := by
  obtain ⟨k, hk⟩ := join_wk h12 hA hv
  exact (wk_dst hA.both (by omega) hv hk).1
theorem zero12 (v : Nat) : [(0 : Int), 0, 0, 0, 0, 0, 0, 0, 0, 0, 0, 0].getD v 0 = 0 := by
  by_cases h : v < 12
  · match v, h with
    | 0, _ => rfl
    | 1, _ => rfl
    | 2, _ => rfl
    | 3, _ => rfl
    | 4, _ => rfl
    | 5, _ => rfl
    | 6, _ => rfl
    | 7, _ => rfl
    | 8, _ => rfl
    | 9, _ => rfl
    | 10, _ => rfl
    | 11, _ => rfl
  · rw [List.getD_eq_getElem?_getD, List.getElem?_eq_none (by simp; omega)]; rfl
theorem bal_zero {es : List Arc} {v : Nat} (_hv : v < 12) : [(0 : Int), 0, 0, 0, 0, 0, 0, 0, 0, 0, 0, 0].getD v 0 = cntE Arc.src (es.take 0) v - cntE Arc.dst (es.take 0) v := by rw [zero12]; rfl
theorem zeros_in : ∀ v : Nat, -((0 : Nat) : Int) ≤ [(0 : Int), 0, 0, 0, 0, 0, 0, 0, 0, 0, 0, 0].getD v 0 ∧ [(0 : Int), 0, 0, 0, 0, 0, 0, 0, 0, 0, 0, 0].getD v 0 ≤ ((0 : Nat) : Int) := fun v => by rw [zero12]; omega
theorem bal_step {es : List Arc} {D : List Int} {i : Nat} (hi : i < es.length) (hD : D.length = 12 ∧ ∀ v : Nat, v < 12 → D.getD v 0 = cntE Arc.src (es.take i) v - cntE Arc.dst (es.take i) v)
    (a1 : 0 ≤ (es.getD i default).src) (a2 : (es.getD i default).src < 12) (a3 : 0 ≤ (es.getD i default).dst) (a4 : (es.getD i default).dst < 12) :
    (((D.set (es.getD i default).src.toNat (D.getD (es.getD i default).src.toNat 0 + 1)).set (es.getD i default).dst.toNat ((D.set (es.getD i default).src.toNat (D.getD (es.getD i default).src.toNat 0 + 1)).getD (es.getD i default).dst.toNat 0 - 1)).length = 12 ∧
      ∀ v : Nat, v < 12 → ((D.set (es.getD i default).src.toNat (D.getD (es.getD i default).src.toNat 0 + 1)).set (es.getD i default).dst.toNat ((D.set (es.getD i default).src.toNat (D.getD (es.getD i default).src.toNat 0 + 1)).getD (es.getD i default).dst.toNat 0 - 1)).getD v 0 = cntE Arc.src (es.take (i + 1)) v - cntE Arc.dst (es.take (i + 1)) v) ∧ True := by
  have hg : ∀ (L : List Int) (k j : Nat) (x : Int), k < L.length → (L.set k x).getD j 0 = if j = k then x else L.getD j 0 := fun L k j x hk => by
    by_cases q : j = k
    · rw [if_pos q, q, getD_set_self _ _ _ _ hk]
    · rw [if_neg q, getD_set_ne _ _ _ _ _ (Ne.symm q)]
  refine ⟨⟨by rw [List.length_set, List.length_set]; exact hD.1, fun v hv => ?_⟩, trivial⟩
  rw [cntE_take (v : Int) hi, cntE_take (v : Int) hi, hg _ _ _ _ (by rw [List.length_set, hD.1]; omega), hg _ _ _ _ (by rw [hD.1]; omega), hg _ _ _ _ (by rw [hD.1]; omega)]
  have h0 := hD.2 v hv
  generalize hs : (es.getD i default).src = s at *
  generalize hd : (es.getD i default).dst = d at *
  by_cases e1 : v = d.toNat
  · rw [if_pos e1, if_pos (show d = (v : Int) by omega)]
    by_cases e2 : d.toNat = s.toNat
    · rw [if_pos e2, if_pos (show s = (v : Int) by omega)]
      have : D.getD s.toNat 0 = D.getD v 0 := by rw [show s.toNat = v by omega]
      omega
    · rw [if_neg e2, if_neg (show ¬ s = (v : Int) by omega)]
      have : D.getD d.toNat 0 = D.getD v 0 := by rw [e1]
      omega
  · rw [if_neg e1, if_neg (show ¬ d = (v : Int) by omega)]
    by_cases e2 : v = s.toNat
    · rw [if_pos e2, if_pos (show s = (v : Int) by omega)]
      have : D.getD s.toNat 0 = D.getD v 0 := by rw [e2]
      omega
    · rw [if_neg e2, if_neg (show ¬ s = (v : Int) by omega)]; omega
theorem bal_bound {D : List Int} {i : Nat} (h : ∀ v : Nat, -(i : Int) ≤ D.getD v 0 ∧ D.getD v 0 ≤ i) (s d : Nat) (hs : s < D.length) (hd : d < D.length) :
    ∀ v : Nat, -((i + 1 : Nat) : Int) ≤ ((D.set s (D.getD s 0 + 1)).set d ((D.set s (D.getD s 0 + 1)).getD d 0 - 1)).getD v 0 ∧ ((D.set s (D.getD s 0 + 1)).set d ((D.set s (D.getD s 0 + 1)).getD d 0 - 1)).getD v 0 ≤ ((i + 1 : Nat) : Int) := by
  intro v
  have hg : ∀ (L : List Int) (k j : Nat) (x : Int), k < L.length → (L.set k x).getD j 0 = if j = k then x else L.getD j 0 := fun L k j x hk => by
    by_cases q : j = k
    · rw [if_pos q, q, getD_set_self _ _ _ _ hk]
    · rw [if_neg q, getD_set_ne _ _ _ _ _ (Ne.symm q)]
  rw [hg _ _ _ _ (by rw [List.length_set]; exact hd), hg _ _ _ _ hs, hg _ _ _ _ hs]
  have h1 := h v; have h2 := h s; have h3 := h d
  split <;> split <;> omega
theorem Eul.lens {es : List Arc} {s f : Int} {us : List Bool} {dn op : List Int} {at_ base : Int} (h : Eul es s f us dn op at_ base) : dn.length + op.length ≤ es.length := by
  have h1 := List.Nodup.length_le_of_subset h.nd (l₂ := idsOf es.length) (fun x hx => ids_mem.2 ⟨x.toNat, by have := h.rng x hx; omega, by have := h.rng x hx; omega⟩)
  rw [ids_len, List.length_append] at h1
  exact h1
theorem next_in {es : List Arc} {us : List Bool} {at_ k : Int} (h : Next1 es us at_ k) : -1 ≤ k ∧ k < es.length := by
  rcases h with ⟨h1, _⟩ | ⟨h1, h2, _⟩ <;> omega
theorem trail_end {es : List Arc} {l : List Int} {s f kd : Int} {rd : Bool} {m : Nat} (h : chainE es s l f) (hk : kd = 2 → s = f) (hr : rd = true → kd = 2) (hm : m = l.length - 1) :
    (((decide (((l.length : Nat) : Int) = 0)) || (!rd)) || (decide (((List.getD es (Int.toNat (List.getD l 0 0)) default).src) = ((List.getD es (Int.toNat (List.getD l m 0)) default).dst)))) = true := by
  by_cases h0 : l.length = 0
  · simp [h0]
  · cases rd with
    | false => simp
    | true =>
      have h1 := chain_first h (by omega)
      have h2 := chain_last h (by omega)
      rw [hm, h1, h2, hk (hr rfl)]
      simp
end Go.Ab
