/- Of trails that go along each arc once: the plain laws. -/
import Derived.Test.YtoghkabjfpolbaaPlSort
import Derived.Test.YtoghkabjfpolbaaPlParts
import Derived.Test.YtoghkabjfpolbaaPlGraph2
namespace Go.Ab
/-! ### Balance -/
def balA (a : Arc) (v : Int) : Int := (if a.src = v then 1 else 0) - (if a.dst = v then 1 else 0)
/-- Of the arcs that are not used: what goes, less what comes. -/
def bal : List Arc → List Bool → Int → Int
  | a :: r, u :: q, v => (if u = true then 0 else balA a v) + bal r q v
  | _, _, _ => 0
theorem bal_set : ∀ {es : List Arc} {us : List Bool} {k : Nat} {v : Int}, us.length = es.length → k < es.length → us.getD k false = false → bal es (us.set k true) v = bal es us v - balA (es.getD k default) v
  | a :: r, u :: q, 0, v, _, _, h => by
    have : u = false := by simpa using h
    subst this
    simp [bal]; omega
  | a :: r, u :: q, k + 1, v, hl, hk, h => by
    have := bal_set (es := r) (us := q) (k := k) (v := v) (by simpa using hl) (by simpa using hk) (by simpa using h)
    simp only [List.set_cons_succ, bal, this, List.getD_cons_succ]
    omega
  | [], _, k, _, _, hk, _ => by simp at hk
  | a :: r, [], k, _, hl, _, _ => by simp at hl
/-- No arc goes from there that is not used. -/
def stuck (es : List Arc) (us : List Bool) (v : Int) : Prop := ∀ k : Nat, k < es.length → us.getD k false = false → (es.getD k default).src ≠ v
theorem bal_stuck : ∀ {es : List Arc} {us : List Bool} {v : Int}, us.length = es.length → stuck es us v → bal es us v ≤ 0 ∧ (bal es us v = 0 → ∀ k : Nat, k < es.length → us.getD k false = false → (es.getD k default).dst ≠ v)
  | [], us, v, hl, _ => ⟨by cases us <;> simp [bal], fun _ k hk => by simp at hk⟩
  | a :: r, [], v, hl, _ => by simp at hl
  | a :: r, u :: q, v, hl, h => by
    obtain ⟨h1, h2⟩ := bal_stuck (es := r) (us := q) (v := v) (by simpa using hl) (fun k hk hu => by have := h (k + 1) (by simpa using hk) (by simpa using hu); simpa using this)
    have h0 := h 0 (by simp)
    rw [bal]
    cases u with
    | true =>
      simp only [if_true]
      refine ⟨by omega, fun e k hk hu => ?_⟩
      cases k with
      | zero => simp at hu
      | succ k => simpa using h2 (by omega) k (by simpa using hk) (by simpa using hu)
    | false =>
      have h0' : a.src ≠ v := by simpa using h0 (by simp)
      simp only [Bool.false_eq_true, if_false, balA, if_neg h0']
      by_cases hd : a.dst = v
      · rw [if_pos hd]; exact ⟨by omega, fun e => by omega⟩
      · rw [if_neg hd]
        refine ⟨by omega, fun e k hk hu => ?_⟩
        cases k with
        | zero => simpa using hd
        | succ k => simpa using h2 (by omega) k (by simpa using hk) (by simpa using hu)
/-! ### Chains -/
def chainE (es : List Arc) (u : Int) : List Int → Int → Prop
  | [], w => u = w
  | x :: r, w => (es.getD x.toNat default).src = u ∧ chainE es (es.getD x.toNat default).dst r w
theorem chain_snoc {es : List Arc} {x w : Int} : ∀ {l : List Int} {u : Int}, chainE es u (l ++ [x]) w ↔ chainE es u l (es.getD x.toNat default).src ∧ (es.getD x.toNat default).dst = w
  | [], u => by
    simp only [List.nil_append, chainE]
    exact ⟨fun h => ⟨h.1.symm, h.2⟩, fun h => ⟨h.1.symm, h.2⟩⟩
  | y :: r, u => by
    simp only [List.cons_append, chainE, chain_snoc (l := r)]
    exact ⟨fun h => ⟨⟨h.1, h.2.1⟩, h.2.2⟩, fun h => ⟨h.1.1, h.1.2, h.2⟩⟩
theorem chain_at {es : List Arc} : ∀ {l : List Int} {u w : Int} {i : Nat}, chainE es u l w → i + 1 < l.length → (es.getD (l.getD (i + 1) 0).toNat default).src = (es.getD (l.getD i 0).toNat default).dst
  | x :: y :: r, u, w, 0, h, _ => by simpa using h.2.1
  | x :: r, u, w, i + 1, h, hi => by simpa using chain_at (l := r) (i := i) h.2 (by simpa using hi)
  | [], _, _, _, _, hi => by simp at hi
  | [_], _, _, 0, _, hi => by simp at hi
theorem chain_first {es : List Arc} {l : List Int} {u w : Int} (h : chainE es u l w) (hl : 0 < l.length) : (es.getD (l.getD 0 0).toNat default).src = u := by
  cases l with
  | nil => simp at hl
  | cons x r => simpa using h.1
theorem chain_last {es : List Arc} {l : List Int} {u w : Int} (h : chainE es u l w) (hl : 0 < l.length) : (es.getD (l.getD (l.length - 1) 0).toNat default).dst = w := by
  rcases List.eq_nil_or_concat l with rfl | ⟨r, x, rfl⟩
  · simp at hl
  · rw [List.concat_eq_append] at h ⊢
    have := (chain_snoc.1 h).2
    simpa using this
structure Eul (es : List Arc) (s f : Int) (us : List Bool) (dn op : List Int) (at_ base : Int) : Prop where
  ul : us.length = es.length
  us_ : ∀ k : Nat, k < es.length → (us.getD k false = true ↔ (k : Int) ∈ dn ∨ (k : Int) ∈ op)
  nd : (dn ++ op).Nodup
  rng : ∀ x ∈ dn ++ op, 0 ≤ x ∧ x < es.length
  opn : chainE es s op at_
  don : chainE es base dn.reverse f
  bl : ∀ v, bal es us v = (if v = at_ then 1 else 0) - (if v = base then 1 else 0)
  st : ∀ x ∈ dn, stuck es us (es.getD x.toNat default).dst
theorem stuck_set {es : List Arc} {us : List Bool} {v : Int} {k : Nat} (h : stuck es us v) : stuck es (us.set k true) v := by
  intro j hj hu
  by_cases q : j = k
  · subst q
    by_cases q2 : j < us.length
    · rw [getD_set_self _ _ _ _ q2] at hu; cases hu
    · exact h j hj (by rw [List.getD_eq_getElem?_getD, List.getElem?_eq_none (by omega)]; rfl)
  · exact h j hj (by rw [getD_set_ne _ _ _ _ _ (Ne.symm q)] at hu; exact hu)
theorem Eul.go {es : List Arc} {s f : Int} {us : List Bool} {dn op : List Int} {at_ base : Int} (h : Eul es s f us dn op at_ base) {k : Nat} (hk : k < es.length) (hu : us.getD k false = false) (hs : (es.getD k default).src = at_) :
    Eul es s f (us.set k true) dn (op ++ [(k : Int)]) (es.getD k default).dst base := by
  have hnot : (k : Int) ∉ dn ∧ (k : Int) ∉ op := by
    constructor
    · intro q; have := (h.us_ k hk).2 (.inl q); rw [hu] at this; cases this
    · intro q; have := (h.us_ k hk).2 (.inr q); rw [hu] at this; cases this
  refine ⟨by rw [List.length_set]; exact h.ul, fun j hj => ?_, ?_, fun x hx => ?_, chain_snoc.2 ⟨by rw [Int.toNat_natCast, hs]; exact h.opn, by rw [Int.toNat_natCast]⟩, h.don, fun v => ?_, fun x hx => stuck_set (h.st x hx)⟩
  · rw [List.mem_append, List.mem_singleton]
    by_cases q : j = k
    · subst q
      rw [getD_set_self _ _ _ _ (by rw [h.ul]; exact hk)]
      exact ⟨fun _ => .inr (.inr rfl), fun _ => rfl⟩
    · rw [getD_set_ne _ _ _ _ _ (Ne.symm q), h.us_ j hj]
      constructor
      · rintro (e | e)
        · exact .inl e
        · exact .inr (.inl e)
      · rintro (e | e | e)
        · exact .inl e
        · exact .inr e
        · omega
  · rw [← List.append_assoc, List.nodup_append]
    refine ⟨h.nd, by simp, fun x hx y hy e => ?_⟩
    rw [List.mem_singleton] at hy
    rw [e, hy] at hx
    rcases List.mem_append.1 hx with q | q
    · exact hnot.1 q
    · exact hnot.2 q
  · rw [← List.append_assoc] at hx
    rcases List.mem_append.1 hx with q | q
    · exact h.rng x q
    · rw [List.mem_singleton] at q; omega
  · rw [bal_set h.ul hk hu, h.bl v, balA, hs]
    by_cases q1 : v = at_
    · subst q1
      by_cases q2 : (es.getD k default).dst = v
      · rw [if_pos rfl, if_pos q2, if_pos q2.symm]; omega
      · rw [if_pos rfl, if_neg q2, if_neg (Ne.symm q2)]; omega
    · rw [if_neg q1, if_neg (Ne.symm q1)]
      by_cases q2 : (es.getD k default).dst = v
      · rw [if_pos q2, if_pos q2.symm]; omega
      · rw [if_neg q2, if_neg (Ne.symm q2)]; omega
theorem Eul.base_ {es : List Arc} {s f : Int} {us : List Bool} {dn op : List Int} {at_ base : Int} (h : Eul es s f us dn op at_ base) (hst : stuck es us at_) : at_ = base := by
  have h1 := (bal_stuck h.ul hst).1
  rw [h.bl at_, if_pos rfl] at h1
  by_cases q : at_ = base
  · exact q
  · rw [if_neg q] at h1; omega
theorem Eul.pop {es : List Arc} {s f : Int} {us : List Bool} {dn op : List Int} {at_ base x : Int} (h : Eul es s f us dn (op ++ [x]) at_ base) (hst : stuck es us at_) :
    Eul es s f us (dn ++ [x]) op (es.getD x.toNat default).src (es.getD x.toNat default).src := by
  obtain ⟨c1, c2⟩ := chain_snoc.1 h.opn
  have hb := h.base_ hst
  have hp : (dn ++ [x] ++ op).Perm (dn ++ (op ++ [x])) := by
    rw [List.append_assoc]
    exact List.Perm.append_left dn List.perm_append_comm
  refine ⟨h.ul, fun k hk => ?_, (hp.nodup_iff).2 h.nd, fun y hy => h.rng y (hp.mem_iff.1 hy), c1, ?_, fun v => ?_, fun y hy => ?_⟩
  · rw [h.us_ k hk, List.mem_append, List.mem_append]
    constructor
    · rintro (e | e | e)
      · exact .inl (.inl e)
      · exact .inr e
      · exact .inl (.inr e)
    · rintro ((e | e) | e)
      · exact .inl e
      · exact .inr (.inr e)
      · exact .inr (.inl e)
  · rw [List.reverse_append]
    refine ⟨rfl, ?_⟩
    rw [c2, hb]; exact h.don
  · rw [h.bl v, hb]; omega
  · rcases List.mem_append.1 hy with q | q
    · exact h.st y q
    · rw [List.mem_singleton] at q
      rw [q, c2]; exact hst
theorem Eul.start {es : List Arc} {s f : Int} {us : List Bool} (hl : us.length = es.length) (h0 : ∀ k : Nat, k < es.length → us.getD k false = false) (hb : ∀ v, bal es us v = (if v = s then 1 else 0) - (if v = f then 1 else 0)) : Eul es s f us [] [] s f :=
  ⟨hl, fun k hk => by rw [h0 k hk]; simp, by simp, fun x hx => by simp at hx, rfl, rfl, hb, fun x hx => by cases hx⟩
/-! ### What hangs together -/
theorem idxOf_yes {α : Type} {p : α → Bool} {d : α} {l : List α} {u : Nat} (h : idxOf p l = u) : p (l.getD u d) = true := by
  cases e : p (l.getD u d)
  · exfalso
    have hall : l.any p = true := by rw [← any_idx, h]; exact decide_eq_true (by omega)
    obtain ⟨x, hx, hp⟩ := List.any_eq_true.1 hall
    obtain ⟨i, hi, rfl⟩ := List.mem_iff_getElem.1 hx
    have hg : l.getD i d = l[i] := by simp [List.getD_eq_getElem?_getD, List.getElem?_eq_getElem hi]
    rw [← hg] at hp
    -- the first one
    obtain ⟨j, hj, hpj, hmin⟩ : ∃ j : Nat, j < l.length ∧ p (l.getD j d) = true ∧ ∀ k, k < j → p (l.getD k d) = false := by
      have key : ∀ m : Nat, (∀ k, k < m → p (l.getD k d) = false) ∨ ∃ j, j < m ∧ p (l.getD j d) = true ∧ ∀ k, k < j → p (l.getD k d) = false := by
        intro m
        induction m with
        | zero => exact .inl fun k hk => by omega
        | succ m ih =>
          rcases ih with ih | ⟨j, j1, j2, j3⟩
          · cases e2 : p (l.getD m d)
            · left
              intro k hk
              rcases Nat.lt_succ_iff_lt_or_eq.1 hk with q | q
              · exact ih k q
              · rw [q]; exact e2
            · exact .inr ⟨m, by omega, e2, ih⟩
          · exact .inr ⟨j, by omega, j2, j3⟩
      rcases key (i + 1) with q | ⟨j, j1, j2, j3⟩
      · rw [q i (by omega)] at hp; cases hp
      · exact ⟨j, by omega, j2, j3⟩
    have := idxOf_at (d := d) hmin hj hpj
    rw [h] at this
    have : u = j := by omega
    rw [this, hpj] at e; cases e
  · rfl
theorem join_wk {n : Int} {es : List Arc} (h12 : n ≤ 12) (hA : InR n es) {v : Nat} (hv : (v : Int) < n) : ∃ k, wk (bothA es) k v ((joinedOf n es).getD v 0) = true := by
  have hget : (joinedOf n es).getD v 0 = idxOf finB ((waysOf n (bothA es)).getD v []) := by
    rw [getD_lt (joinedOf n es) 0 v (by rw [joinedOf_len]; omega)]; simp [joinedOf]
  have hrow := row_len (es := bothA es) hv
  have hself : finB (((waysOf n (bothA es)).getD v []).getD v 0) = true := by
    rw [waysOf_at hv hv, finB_dist h12 hA.both]
    exact ⟨0, wk_zero.2 rfl⟩
  have hany : ((waysOf n (bothA es)).getD v []).any finB = true := any_at (d := 0) (by rw [hrow]; omega) hself
  rw [← any_idx] at hany
  have h0 := of_decide_eq_true hany
  have hlt := (idxOf_ge (p := finB) (l := (waysOf n (bothA es)).getD v [])).2
  rw [hget]
  obtain ⟨u, hu⟩ : ∃ u : Nat, idxOf finB ((waysOf n (bothA es)).getD v []) = u := ⟨_, (Int.toNat_of_nonneg h0).symm⟩
  have hun : (u : Int) < n := by rw [hrow] at hlt; omega
  have hfin := idxOf_yes (d := 0) hu
  rw [waysOf_at hv hun, finB_dist h12 hA.both] at hfin
  rw [hu]; exact hfin
theorem closed_wk {es : List Arc} {T : Int → Prop} (hT : ∀ a ∈ es, T a.src → T a.dst) : ∀ {k : Nat} {u v : Int}, wk es k u v = true → T u → T v
  | 0, u, v, h, hu => by rw [wk_zero] at h; rw [← h]; exact hu
  | k + 1, u, v, h, hu => by
    obtain ⟨a, ha, rfl, h2⟩ := wk_succ.1 h
    exact closed_wk hT h2 (hT a ha hu)
/-- All is used in the end. -/
theorem Eul.all {n : Int} {es : List Arc} {s f : Int} {us : List Bool} {dn : List Int} {at_ base : Int} (h : Eul es s f us dn [] at_ base) (hst : stuck es us at_) (h12 : n ≤ 12) (hA : InR n es)
    (hs : 0 < es.length → ∃ k : Nat, k < es.length ∧ (es.getD k default).src = s) (hj : ∀ k : Nat, k < es.length → (joinedOf n es).getD (es.getD k default).src.toNat 0 = (joinedOf n es).getD s.toNat 0) :
    isFull es.length dn.reverse ∧ chainE es s dn.reverse f := by
  have hat : s = at_ := h.opn
  have hbase := h.base_ hst
  have hbal : ∀ v, bal es us v = 0 := fun v => by rw [h.bl v, hbase]; omega
  have hch : chainE es s dn.reverse f := by rw [hat, hbase]; exact h.don
  -- the nodes that are touched
  let T : Int → Prop := fun v => v = s ∨ ∃ x ∈ dn, (es.getD x.toNat default).dst = v
  have hTs : ∀ v, T v → stuck es us v := by
    rintro v (rfl | ⟨x, hx, rfl⟩)
    · rw [hat]; exact hst
    · exact h.st x hx
  have hmem : ∀ x ∈ dn, T (es.getD x.toNat default).src := by
    have key : ∀ (l : List Int) (u : Int), chainE es u l f → T u → (∀ x ∈ l, x ∈ dn) → ∀ x ∈ l, T (es.getD x.toNat default).src := by
      intro l
      induction l with
      | nil => intro u _ _ _ x hx; cases hx
      | cons y r ih =>
        intro u hc hu hd x hx
        rcases List.mem_cons.1 hx with rfl | h2
        · rw [hc.1]; exact hu
        · exact ih _ hc.2 (.inr ⟨y, hd y List.mem_cons_self, rfl⟩) (fun z hz => hd z (List.mem_cons_of_mem _ hz)) x h2
    exact fun x hx => key _ s hch (.inl rfl) (fun y hy => List.mem_reverse.1 hy) x (List.mem_reverse.2 hx)
  have hused : ∀ k : Nat, k < es.length → (T (es.getD k default).src ∨ T (es.getD k default).dst) → (k : Int) ∈ dn := by
    intro k hk ht
    have hu : us.getD k false = true := by
      cases e : us.getD k false
      · exfalso
        rcases ht with ht | ht
        · exact hTs _ ht k hk e rfl
        · exact (bal_stuck h.ul (hTs _ ht)).2 (hbal _) k hk e rfl
      · rfl
    rcases (h.us_ k hk).1 hu with q | q
    · exact q
    · cases q
  have hclos : ∀ a ∈ bothA es, T a.src → T a.dst := by
    intro a ha hsrc
    rcases mem_both.1 ha with h1 | ⟨b, hb, rfl⟩
    · obtain ⟨k, hk, rfl⟩ := List.mem_iff_getElem.1 h1
      have hg : es.getD k default = es[k] := by simp [List.getD_eq_getElem?_getD, List.getElem?_eq_getElem hk]
      rw [← hg] at hsrc ⊢
      exact .inr ⟨k, hused k hk (.inl hsrc), by rw [Int.toNat_natCast]⟩
    · obtain ⟨k, hk, rfl⟩ := List.mem_iff_getElem.1 hb
      have hg : es.getD k default = es[k] := by simp [List.getD_eq_getElem?_getD, List.getElem?_eq_getElem hk]
      rw [← hg] at hsrc ⊢
      have := hmem _ (hused k hk (.inr hsrc))
      rw [Int.toNat_natCast] at this
      exact this
  have hall : ∀ k : Nat, k < es.length → (k : Int) ∈ dn := by
    intro k hk
    obtain ⟨k0, hk0, hs0⟩ := hs (by omega)
    have hin : ∀ j : Nat, j < es.length → 0 ≤ (es.getD j default).src ∧ (es.getD j default).src < n := fun j hj2 => by
      obtain ⟨a1, a2, _, _⟩ := hA _ (getD_mem (d := default) hj2); exact ⟨a1, a2⟩
    have hsn := hin k0 hk0
    rw [hs0] at hsn
    have hkn := hin k hk
    obtain ⟨p, hp⟩ := join_wk h12 hA (v := s.toNat) (by omega)
    obtain ⟨q, hq⟩ := join_wk h12 hA (v := (es.getD k default).src.toNat) (by omega)
    rw [Int.toNat_of_nonneg hsn.1] at hp
    rw [Int.toNat_of_nonneg hkn.1, hj k hk] at hq
    have h1 := closed_wk hclos hp (.inl rfl)
    exact hused k hk (.inl (closed_wk hclos (wk_rev hq) h1))
  have hnd : dn.Nodup := by have := h.nd; simpa using this
  refine ⟨⟨?_, fun k hk => List.mem_reverse.2 (hall k hk)⟩, hch⟩
  rw [List.length_reverse]
  have h1 := List.Nodup.length_le_of_subset hnd (l₂ := idsOf es.length) (fun x hx => ids_mem.2 ⟨x.toNat, by have := h.rng x (by simpa using hx); omega, by have := h.rng x (by simpa using hx); omega⟩)
  have h2 := List.Nodup.length_le_of_subset (ids_nodup es.length) (l₂ := dn) (fun x hx => by obtain ⟨k, hk, rfl⟩ := ids_mem.1 hx; exact hall k hk)
  rw [ids_len] at h1 h2
  omega
end Go.Ab
