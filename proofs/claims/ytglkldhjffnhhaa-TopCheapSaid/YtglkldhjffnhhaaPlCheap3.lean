/- Of what a flow costs: the search for a shortest way, and back: the plain laws. -/
import Derived.Test.YtglkldhjffnhhaaPlCheap2
namespace Go.Ab
/-- What is found of the nodes that lie on shortest ways. -/
structure TB (n s : Int) (A : List Arc) (far : List Int) (kn : List Bool) (deep by_ todo : List Int) : Prop where
  dl : deep.length = 12
  bl : by_.length = 12
  src : deep.getD s.toNat 0 = 0
  lo : ∀ v, v < 12 → -1 ≤ deep.getD v 0
  hi : ∀ v, v < 12 → deep.getD v 0 + (negs deep : Int) < 12
  kn_ : ∀ v : Nat, v < 12 → 0 ≤ deep.getD v 0 → (v : Int) < n ∧ kn.getD v false = true
  tree : ∀ v : Nat, v < 12 → 0 ≤ deep.getD v 0 → (v : Int) ≠ s → 0 ≤ by_.getD v 0 ∧ by_.getD v 0 < A.length ∧ (A.getD (by_.getD v 0).toNat default).dst = v ∧ 0 ≤ (A.getD (by_.getD v 0).toNat default).src ∧ (A.getD (by_.getD v 0).toNat default).src < n ∧
    0 ≤ deep.getD (A.getD (by_.getD v 0).toNat default).src.toNat 0 ∧ deep.getD v 0 = deep.getD (A.getD (by_.getD v 0).toNat default).src.toNat 0 + 1 ∧ far.getD v 0 = far.getD (A.getD (by_.getD v 0).toNat default).src.toNat 0 + (A.getD (by_.getD v 0).toNat default).cap
  todo_ : ∀ u ∈ todo, 0 ≤ u ∧ u < n ∧ 0 ≤ deep.getD u.toNat 0
def TCl (n : Int) (A : List Arc) (far : List Int) (kn : List Bool) (deep todo : List Int) : Prop := ∀ u : Int, 0 ≤ u → u < n → 0 ≤ deep.getD u.toNat 0 → u ∉ todo → ∀ i, i < A.length → (A.getD i default).src = u → kn.getD (A.getD i default).dst.toNat false = true → far.getD (A.getD i default).dst.toNat 0 = far.getD u.toNat 0 + (A.getD i default).cap → 0 ≤ deep.getD (A.getD i default).dst.toNat 0
section
variable {n s : Int} {A : List Arc} {far : List Int} {kn : List Bool} {deep by_ todo : List Int}
theorem TB.start {m b : List Int} (hm : m.length = 12) (h : ∀ j, j < 12 → m.getD j 0 = -1) (hb : b.length = 12) (s0 : 0 ≤ s) (s1 : s < n) (hn : n ≤ 12) (hk : kn.getD s.toNat false = true) :
    TB n s A far kn (m.set s.toNat 0) b [s] ∧ TCl n A far kn (m.set s.toNat 0) [s] ∧ negs (m.set s.toNat 0) + 1 ≤ 12 := by
  have get : ∀ x, (m.set s.toNat 0).getD x 0 = if x = s.toNat then 0 else m.getD x 0 := fun x => by
    by_cases hx : x = s.toNat
    · subst hx; rw [if_pos rfl, getD_set_self _ _ _ _ (by omega)]
    · rw [if_neg hx, getD_set_ne _ _ _ _ _ (Ne.symm hx)]
  have hone : ∀ l : List Int, negs l ≤ l.length := by
    intro l
    induction l with
    | nil => simp [negs]
    | cons x r ih => simp only [negs, List.length_cons]; split <;> omega
  have h1 := hone m
  have h2 := negs_set (l := m) (i := s.toNat) (x := 0) (by omega) (by rw [h _ (by omega)]; decide) (Int.le_refl _)
  refine ⟨⟨by simp [hm], hb, by rw [get, if_pos rfl], fun v hv => ?_, fun v hv => ?_, fun v hv hd => ?_, fun v hv hd hne => ?_, fun u hu => ?_⟩, fun u u0 u1 ud hu => ?_, by omega⟩
  · rw [get]; split
    · decide
    · rw [h v hv]; decide
  · rw [get]; split
    · omega
    · rw [h v hv]; omega
  · rw [get] at hd
    by_cases e : v = s.toNat
    · rw [e]; exact ⟨by omega, hk⟩
    · rw [if_neg e, h v hv] at hd; omega
  · rw [get, if_neg (by omega), h v hv] at hd; omega
  · rw [List.mem_singleton] at hu
    subst hu
    exact ⟨s0, s1, by rw [get, if_pos rfl]; decide⟩
  · exfalso
    rw [get] at ud
    by_cases e : u.toNat = s.toNat
    · exact hu (List.mem_singleton.2 (by omega))
    · rw [if_neg e, h _ (by omega)] at ud; omega
theorem TB.visit (h : TB n s A far kn deep by_ todo) (hn : n ≤ 12) {u : Int} {i : Nat} (u0 : 0 ≤ u) (u1 : u < n) (ud : 0 ≤ deep.getD u.toNat 0) (hi : i < A.length) (hs : (A.getD i default).src = u) (v0 : 0 ≤ (A.getD i default).dst) (v1 : (A.getD i default).dst < n)
    (vd : deep.getD (A.getD i default).dst.toNat 0 < 0) (hk : kn.getD (A.getD i default).dst.toNat false = true) (hf : far.getD (A.getD i default).dst.toNat 0 = far.getD u.toNat 0 + (A.getD i default).cap) :
    TB n s A far kn (deep.set (A.getD i default).dst.toNat (deep.getD u.toNat 0 + 1)) (by_.set (A.getD i default).dst.toNat i) (todo ++ [(A.getD i default).dst]) := by
  generalize hv : (A.getD i default).dst = v at *
  have hdl := h.dl
  have hbl := h.bl
  have get : ∀ x, (deep.set v.toNat (deep.getD u.toNat 0 + 1)).getD x 0 = if x = v.toNat then deep.getD u.toNat 0 + 1 else deep.getD x 0 := fun x => by
    by_cases hx : x = v.toNat
    · subst hx; rw [if_pos rfl, getD_set_self _ _ _ _ (by omega)]
    · rw [if_neg hx, getD_set_ne _ _ _ _ _ (Ne.symm hx)]
  have getb : ∀ x, (by_.set v.toNat (i : Int)).getD x 0 = if x = v.toNat then (i : Int) else by_.getD x 0 := fun x => by
    by_cases hx : x = v.toNat
    · subst hx; rw [if_pos rfl, getD_set_self _ _ _ _ (by omega)]
    · rw [if_neg hx, getD_set_ne _ _ _ _ _ (Ne.symm hx)]
  have hng := negs_set (l := deep) (i := v.toNat) (x := deep.getD u.toNat 0 + 1) (by omega) vd (by omega)
  have hup : ∀ x : Nat, 0 ≤ deep.getD x 0 → (deep.set v.toNat (deep.getD u.toNat 0 + 1)).getD x 0 = deep.getD x 0 := fun x hx => by
    rw [get, if_neg (fun e => by rw [e] at hx; omega)]
  refine ⟨by rw [List.length_set]; exact hdl, by rw [List.length_set]; exact hbl, by rw [hup _ (by rw [h.src]; decide)]; exact h.src, fun x hx => ?_, fun x hx => ?_, fun x hx hd => ?_, fun x hx hd hne => ?_, fun x hx => ?_⟩
  · rw [get]; split
    · omega
    · exact h.lo x hx
  · rw [get]
    have := h.hi u.toNat (by omega)
    have := h.hi x hx
    split <;> omega
  · rw [get] at hd
    by_cases e : x = v.toNat
    · subst e; exact ⟨by omega, hk⟩
    · rw [if_neg e] at hd; exact h.kn_ x hx hd
  · rw [get] at hd
    rw [getb]
    by_cases e : x = v.toNat
    · subst e
      rw [if_pos rfl]
      rw [Int.toNat_natCast, hs, hv, hup _ ud, get, if_pos rfl]
      exact ⟨by omega, by omega, by omega, u0, u1, ud, rfl, hf⟩
    · rw [if_neg e] at hd ⊢
      obtain ⟨t1, t2, t3, t4, t5, t6, t7, t8⟩ := h.tree x hx hd hne
      rw [hup _ t6, get, if_neg e]
      exact ⟨t1, t2, t3, t4, t5, t6, t7, t8⟩
  · rcases List.mem_append.1 hx with q | q
    · obtain ⟨q1, q2, q3⟩ := h.todo_ x q
      exact ⟨q1, q2, by rw [hup _ q3]; exact q3⟩
    · rw [List.mem_singleton] at q
      subst q
      exact ⟨v0, v1, by rw [get, if_pos rfl]; omega⟩
theorem TCl.visit (h : TCl n A far kn deep todo) {v x : Int} (v0 : 0 ≤ v) (hv : v.toNat < deep.length) (hx : 0 ≤ x) : TCl n A far kn (deep.set v.toNat x) (todo ++ [v]) := by
  have get : ∀ y, (deep.set v.toNat x).getD y 0 = if y = v.toNat then x else deep.getD y 0 := fun y => by
    by_cases hy : y = v.toNat
    · subst hy; rw [if_pos rfl, getD_set_self _ _ _ _ hv]
    · rw [if_neg hy, getD_set_ne _ _ _ _ _ (Ne.symm hy)]
  intro u u0 u1 ud hu i hi hs hk hf
  rw [get]
  split
  · exact hx
  · by_cases e : u.toNat = v.toNat
    · exact absurd (List.mem_append_right _ (List.mem_singleton.2 (by omega))) hu
    · rw [get, if_neg e] at ud
      exact h u u0 u1 ud (fun q => hu (List.mem_append_left _ q)) i hi hs hk hf
theorem TCl.next {x : List Int} (h : TCl n A far kn deep (todo ++ x)) (hne : 0 < todo.length)
    (ha : ∀ i, i < A.length → (A.getD i default).src = todo.getD 0 0 → kn.getD (A.getD i default).dst.toNat false = true → far.getD (A.getD i default).dst.toNat 0 = far.getD (todo.getD 0 0).toNat 0 + (A.getD i default).cap → 0 ≤ deep.getD (A.getD i default).dst.toNat 0) : TCl n A far kn deep ((todo ++ x).drop 1) := by
  intro u u0 u1 ud ut i hi hs hk hf
  by_cases hu : u = todo.getD 0 0
  · subst hu; exact ha i hi hs hk hf
  · refine h u u0 u1 ud (fun hm => ?_) i hi hs hk hf
    match todo, hne with
    | y :: r, _ =>
      simp only [List.getD_cons_zero] at hu
      simp only [List.cons_append, List.mem_cons] at hm
      rcases hm with hm | hm
      · exact hu hm
      · exact ut (by simpa using hm)
theorem found_deep {v x : Int} (hx : 0 ≤ x) (hv : v.toNat < deep.length) {y : Nat} (h : 0 ≤ deep.getD y 0) : 0 ≤ (deep.set v.toNat x).getD y 0 := by
  by_cases hy : y = v.toNat
  · subst hy; rw [getD_set_self _ _ _ _ hv]; exact hx
  · rw [getD_set_ne _ _ _ _ _ (Ne.symm hy)]; exact h
/-- What is known is found. -/
theorem TB.all (h : TB n s A far kn deep by_ []) (hc : TCl n A far kn deep []) (hA : InR n A) (hF : Far n A (fun x => x = s) far kn) (s0 : 0 ≤ s) (s1 : s < n) : ∀ {Y : List Int} {v w : Int}, Wl A (fun x => x = s) v Y w → w ≤ far.getD v.toNat 0 → 0 ≤ deep.getD v.toNat 0
  | [], v, w, ⟨h1, _⟩, _ => by
    have h1 : v = s := h1
    rw [h1, h.src]; decide
  | u :: Z, v, w, ⟨a, ha, h1, h2, h3⟩, hw => by
    subst h1 h2
    obtain ⟨g1, g2⟩ := hF.low _ _ _ h3
    obtain ⟨g3, g4⟩ := hF.low _ _ _ (Wl.arc ha h3)
    obtain ⟨a1, a2, a3, a4⟩ := hA a ha
    obtain ⟨Y, hY⟩ := hF.rx.snd a.src a1 a2 g1
    have g5 := (hF.low _ _ _ (Wl.arc ha hY)).2
    have hu := TB.all h hc hA hF s0 s1 h3 (by omega)
    obtain ⟨i, hi, rfl⟩ := mem_getD default ha
    exact hc _ a1 a2 hu (by simp) i hi rfl g3 (by omega)
end
/-! ### Back -/
structure BK (n s t : Int) (es : List Arc) (cost f far : List Int) (kn : List Bool) (deep : List Int) (at_ : Int) (L : List Int) (room : Int) : Prop where
  a0 : 0 ≤ at_
  a1 : at_ < n
  ad : 0 ≤ deep.getD at_.toNat 0
  ch : ChainB es f t (L.map toP) at_
  once : Once (L.map toP)
  ab : Above es (fun v => (deep.getD v 0).toNat) at_ (L.map toP)
  r0 : 0 < room
  r1 : room ≤ 10000
  rm : ∀ p ∈ L.map toP, room ≤ room1 es f p
  ks : ∀ x ∈ L, 0 ≤ x ∧ x < 2 * es.length
  cost_ : wcost cost (L.map toP) = far.getD t.toNat 0 - far.getD at_.toNat 0
  tg : ∀ p ∈ L.map toP, Tgt es cost f far kn p
  ln : L.length + (deep.getD at_.toNat 0).toNat ≤ 12
section
variable {n s t : Int} {es : List Arc} {cost f far : List Int} {kn : List Bool} {deep by_ : List Int}
theorem BK.start (hB : TB n s (leftA es cost f es.length) far kn deep by_ []) (t0 : 0 ≤ t) (t1 : t < n) (hn : n ≤ 12) (hd : 0 ≤ deep.getD t.toNat 0) : BK n s t es cost f far kn deep t [] 10000 where
  a0 := t0
  a1 := t1
  ad := hd
  ch := rfl
  once := trivial
  ab := fun p hp => by cases hp
  r0 := by decide
  r1 := by decide
  rm := fun p hp => by cases hp
  ks := fun x hx => by cases hx
  cost_ := by simp [wcost]
  tg := fun p hp => by cases hp
  ln := by have := hB.hi t.toNat (by omega); rw [List.length_nil]; omega
/-- the step at hand: of which arc, and whence -/
theorem BK.arc {at_ room : Int} {L : List Int} (h : BK n s t es cost f far kn deep at_ L room) (hB : TB n s (leftA es cost f es.length) far kn deep by_ []) (hn : n ≤ 12) (hne : at_ ≠ s) :
    0 ≤ by_.getD at_.toNat 0 ∧ by_.getD at_.toNat 0 < 2 * es.length ∧ Res es f (by_.getD at_.toNat 0 / 2) (decide (by_.getD at_.toNat 0 % 2 ≠ 0)) ((leftA es cost f es.length).getD (by_.getD at_.toNat 0).toNat default).src at_ ∧
    deep.getD at_.toNat 0 = deep.getD ((leftA es cost f es.length).getD (by_.getD at_.toNat 0).toNat default).src.toNat 0 + 1 := by
  have h1 := h.a0
  have h2 := h.a1
  obtain ⟨t1, t2, t3, t4, t5, t6, t7, t8⟩ := hB.tree at_.toNat (by omega) h.ad (by omega)
  rw [leftA_len] at t2
  obtain ⟨r1, r2⟩ := left_res (es := es) (cost := cost) (f := f) (i := (by_.getD at_.toNat 0).toNat) (by omega) (fun e => by rw [← e, t3] at t7; rw [Int.toNat_natCast] at t7; omega)
  unfold toP at r1
  rw [Int.toNat_of_nonneg t1, t3] at r1
  refine ⟨t1, by omega, ?_, t7⟩
  have : ((at_.toNat : Nat) : Int) = at_ := by omega
  rw [this] at r1
  exact r1
theorem BK.next {at_ room : Int} {L : List Int} (h : BK n s t es cost f far kn deep at_ L room) (hB : TB n s (leftA es cost f es.length) far kn deep by_ []) (hn : n ≤ 12) (hne : at_ ≠ s) {r : Int} (hr : r = min room (room1 es f (toP (by_.getD at_.toNat 0)))) :
    BK n s t es cost f far kn deep ((leftA es cost f es.length).getD (by_.getD at_.toNat 0).toNat default).src (L ++ [by_.getD at_.toNat 0]) r := by
  have h1 := h.a0
  have h2 := h.a1
  obtain ⟨k0, k1, hres, hdp⟩ := h.arc hB hn hne
  obtain ⟨t1, t2, t3, t4, t5, t6, t7, t8⟩ := hB.tree at_.toNat (by omega) h.ad (by omega)
  have hat : ((at_.toNat : Nat) : Int) = at_ := by omega
  have hcap : ((leftA es cost f es.length).getD (by_.getD at_.toNat 0).toNat default).cap = stepC cost (toP (by_.getD at_.toNat 0)).1 (toP (by_.getD at_.toNat 0)).2 := by
    obtain ⟨_, r2⟩ := left_res (es := es) (cost := cost) (f := f) (i := (by_.getD at_.toNat 0).toNat) (by omega) (fun e => by rw [← e, t3] at t7; rw [Int.toNat_natCast] at t7; omega)
    rw [Int.toNat_of_nonneg t1] at r2
    exact r2
  generalize ha : (leftA es cost f es.length).getD (by_.getD at_.toNat 0).toNat default = a at *
  generalize hk : by_.getD at_.toNat 0 = k at *
  have hres2 : Res es f (toP k).1 (toP k).2 a.src at_ := hres
  have hpos := hres2.pos
  have hsn := h.ab.snoc hres2 (show (deep.getD a.src.toNat 0).toNat < (deep.getD at_.toNat 0).toNat by omega)
  have hmap : (L ++ [k]).map toP = L.map toP ++ [toP k] := by simp
  have hln := h.ln
  have hr0 := h.r0
  have hr1 := h.r1
  have hpos' : 0 < room1 es f (toP k) := hpos
  refine ⟨t4, t5, t6, by rw [hmap]; exact h.ch.snoc hres2, by rw [hmap]; exact h.once.snoc hsn.2, by rw [hmap]; exact hsn.1, by omega, by omega, fun p hp => ?_, fun x hx => ?_, ?_, fun p hp => ?_, by rw [List.length_append, List.length_singleton]; omega⟩
  · rw [hmap] at hp
    rcases List.mem_append.1 hp with q | q
    · have := h.rm p q; omega
    · rw [List.mem_singleton] at q; subst q; omega
  · rcases List.mem_append.1 hx with q | q
    · exact h.ks x q
    · rw [List.mem_singleton] at q; subst q; exact ⟨k0, k1⟩
  · rw [hmap, wcost_snoc, h.cost_, ← hcap]
    rw [hat] at t3
    omega
  · rw [hmap] at hp
    rcases List.mem_append.1 hp with q | q
    · exact h.tg p q
    · rw [List.mem_singleton] at q
      subst q
      refine ⟨a.src, at_, hres2, (hB.kn_ a.src.toNat (by omega) t6).2, (hB.kn_ at_.toNat (by omega) h.ad).2, ?_⟩
      rw [← hcap]
      exact t8
theorem BK.end_ {at_ room : Int} {L : List Int} (h : BK n s t es cost f far kn deep at_ L room) (he : at_ = s) : BackOk s t es cost f far kn L room := by
  subst he
  exact ⟨h.ch, h.once, h.r0, h.r1, h.rm, h.ks, h.cost_, h.tg, by have := h.ln; omega⟩
end
end Go.Ab
