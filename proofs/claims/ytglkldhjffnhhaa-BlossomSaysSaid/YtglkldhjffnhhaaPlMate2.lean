/- Of odd parts (Tutte, Berge): the plain laws. -/
import Derived.Test.YtglkldhjffnhhaaPlMate
namespace Go.Ab
def sumN (f : Nat → Nat) : Nat → Nat
  | 0 => 0
  | n + 1 => sumN f n + f n
theorem sumN_congr {f g : Nat → Nat} : ∀ {n : Nat}, (∀ k, k < n → f k = g k) → sumN f n = sumN g n
  | 0, _ => rfl
  | n + 1, h => by unfold sumN; rw [sumN_congr fun k hk => h k (by omega), h n (by omega)]
theorem sumN_one {f g : Nat → Nat} {k0 : Nat} : ∀ {n : Nat}, k0 < n → (∀ k, k < n → k ≠ k0 → f k = g k) → sumN f n + g k0 = sumN g n + f k0
  | 0, h, _ => by omega
  | n + 1, h, hk => by
    unfold sumN
    by_cases q : k0 = n
    · subst q
      rw [sumN_congr fun k hk' => hk k (by omega) (by omega)]; omega
    · have := sumN_one (f := f) (g := g) (n := n) (by omega) fun k hk' => hk k (by omega)
      rw [hk n (by omega) (Ne.symm q)]; omega
theorem sumN_le {f g : Nat → Nat} : ∀ {n : Nat}, (∀ k, k < n → f k ≤ g k) → sumN f n ≤ sumN g n
  | 0, _ => Nat.le_refl _
  | n + 1, h => by unfold sumN; exact Nat.add_le_add (sumN_le fun k hk => h k (by omega)) (h n (by omega))
def cntP (n : Nat) (p : Nat → Bool) : Nat := sumN (fun i => if p i = true then 1 else 0) n
def labP (lab : Nat → Nat) (p : Nat → Bool) (k : Nat) : Nat → Bool := fun i => p i && decide (lab i = k)
def oddL (n : Nat) (lab : Nat → Nat) (p : Nat → Bool) : Nat := sumN (fun k => cntP n (labP lab p k) % 2) n
theorem cntP_del {n : Nat} {p : Nat → Bool} {v : Nat} (hv : v < n) (hp : p v = true) : cntP n p = cntP n (delP p v) + 1 := by
  unfold cntP
  have := sumN_one (f := fun i => if p i = true then 1 else 0) (g := fun i => if delP p v i = true then 1 else 0) hv fun k _ hk => by
    have : delP p v k = p k := by unfold delP; rw [decide_eq_false hk]; simp
    rw [this]
  have h2 : delP p v v = false := by unfold delP; simp
  simp only [hp, h2, if_true] at this
  simp at this
  omega
theorem cntP_mono {n : Nat} {p q : Nat → Bool} (h : ∀ v, p v = true → q v = true) : cntP n p ≤ cntP n q := sumN_le fun k _ => by
  by_cases hk : p k = true
  · rw [if_pos hk, if_pos (h k hk)]; exact Nat.le_refl _
  · rw [if_neg hk]; exact Nat.zero_le _
theorem cntP_zero {n : Nat} {p : Nat → Bool} (h : ∀ v, v < n → p v = false) : cntP n p = 0 := by
  unfold cntP
  rw [sumN_congr (g := fun _ => 0) fun k hk => by rw [h k hk]; rfl]
  induction n with
  | zero => rfl
  | succ n ih => unfold sumN; rw [ih fun v hv => h v (by omega)]
theorem cntP_some {n : Nat} {p : Nat → Bool} (h : 0 < cntP n p) : ∃ v, v < n ∧ p v = true := by
  refine Classical.byContradiction fun hc => ?_
  have := cntP_zero (n := n) (p := p) fun v hv => by
    cases q : p v
    · rfl
    · exact absurd ⟨v, hv, q⟩ hc
  omega
theorem labP_del {lab : Nat → Nat} {p : Nat → Bool} {v k : Nat} : labP lab (delP p v) k = delP (labP lab p k) v := by
  funext i
  show (p i && !decide (i = v) && decide (lab i = k)) = (p i && decide (lab i = k) && !decide (i = v))
  cases p i <;> cases decide (i = v) <;> cases decide (lab i = k) <;> rfl
theorem delP_none {p : Nat → Bool} {v : Nat} (h : p v = false) : delP p v = p := by
  funext i
  unfold delP
  by_cases q : i = v
  · subst q; rw [h]; rfl
  · rw [decide_eq_false q]; simp
/-- One node more or less changes the number of odd parts by one. -/
theorem oddL_del {n : Nat} {lab : Nat → Nat} {p : Nat → Bool} {v : Nat} (hv : v < n) (hp : p v = true) (hl : lab v < n) :
    oddL n lab p + cntP n (labP lab (delP p v) (lab v)) % 2 = oddL n lab (delP p v) + (cntP n (labP lab (delP p v) (lab v)) + 1) % 2 := by
  have h1 := cntP_del (n := n) (p := labP lab p (lab v)) hv (by unfold labP; rw [hp]; simp)
  rw [← labP_del] at h1
  have h2 := sumN_one (f := fun k => cntP n (labP lab p k) % 2) (g := fun k => cntP n (labP lab (delP p v) k) % 2) hl fun k _ hk => by
    rw [labP_del, delP_none]
    unfold labP
    rw [decide_eq_false (Ne.symm hk)]; simp
  simp only [h1] at h2
  unfold oddL
  exact h2
theorem oddL_two {n : Nat} {lab : Nat → Nat} {p : Nat → Bool} {e : Pr} (hi : inP p e) (h1 : e.1 < n) (h2 : e.2 < n) (hl : lab e.1 < n) (hs : lab e.1 = lab e.2) : oddL n lab (cutP p e) = oddL n lab p := by
  have q1 := oddL_del (lab := lab) h1 hi.2.1 hl
  have hp2 : delP p e.1 e.2 = true := delP_iff.2 ⟨hi.2.2, Ne.symm hi.1⟩
  have q2 := oddL_del (lab := lab) h2 hp2 (hs ▸ hl)
  have q3 := cntP_del (n := n) (p := labP lab (delP p e.1) (lab e.2)) h2 (by unfold labP; rw [hp2]; simp)
  rw [← labP_del] at q3
  rw [hs, q3] at q1
  unfold cutP
  omega
theorem cut_cnt {n : Nat} {p : Nat → Bool} {e : Pr} (hi : inP p e) (h1 : e.1 < n) (h2 : e.2 < n) : cntP n p = cntP n (cutP p e) + 2 := by
  have q1 := cntP_del h1 hi.2.1
  have q2 := cntP_del h2 (delP_iff.2 ⟨hi.2.2, Ne.symm hi.1⟩ : delP p e.1 e.2 = true)
  unfold cutP
  omega
theorem oddL_le {n : Nat} {lab : Nat → Nat} (hl : ∀ i, i < n → lab i < n) : ∀ (c : Nat) (p : Nat → Bool), cntP n p = c → oddL n lab p ≤ c
  | 0, p, h => by
    refine Nat.le_of_eq ?_
    unfold oddL
    have : ∀ v, v < n → p v = false := fun v hv => by
      cases q : p v
      · rfl
      · have := cntP_del hv q; omega
    rw [sumN_congr (g := fun _ => 0) fun k _ => by rw [cntP_zero fun v hv => by unfold labP; rw [this v hv]; rfl]]
    clear h this hl
    induction n with
    | zero => rfl
    | succ n ih => unfold sumN; rw [ih]
  | c + 1, p, h => by
    obtain ⟨v, hv, hp⟩ := cntP_some (n := n) (p := p) (by omega)
    have h1 := cntP_del hv hp
    have h2 := oddL_le hl c (delP p v) (by omega)
    have h3 := oddL_del (lab := lab) hv hp (hl v hv)
    omega
/-- Berge's bound: with q at rest, p has no more pairs than that. -/
theorem tb_weak {n : Nat} {es : List Pr} {lab : Nat → Nat} (hl : ∀ i, i < n → lab i < n) : ∀ {M : List Pr} {p q : Nat → Bool}, Mt es p M → (∀ v, q v = true → p v = true) → (∀ v, p v = true → v < n) → (∀ e ∈ es, q e.1 = true → q e.2 = true → lab e.1 = lab e.2) →
    2 * M.length + cntP n q + oddL n lab q ≤ 2 * cntP n p
  | [], p, q, _, hq, _, _ => by
    have h1 := oddL_le hl _ q rfl
    have h2 := cntP_mono (n := n) hq
    simp only [List.length_nil]; omega
  | e :: M, p, q, h, hq, hp, he => by
    obtain ⟨m1, m2, m3⟩ := mt_cons.1 h
    have n1 := hp _ m2.2.1
    have n2 := hp _ m2.2.2
    have hc := cut_cnt m2 n1 n2
    have hp' : ∀ v, cutP p e v = true → v < n := fun v hv => hp v (cutP_iff.1 hv).1
    have he' : ∀ {q' : Nat → Bool}, (∀ v, q' v = true → q v = true) → ∀ e ∈ es, q' e.1 = true → q' e.2 = true → lab e.1 = lab e.2 := fun h x hx h1 h2 => he x hx (h _ h1) (h _ h2)
    rw [List.length_cons]
    have hsub : ∀ v, cutP q e v = true → q v = true := fun v hv => (cutP_iff.1 hv).1
    have ih := tb_weak hl (p := cutP p e) (q := cutP q e) m3 (fun v hv => by have := cutP_iff.1 hv; exact cutP_iff.2 ⟨hq v this.1, this.2⟩) hp' (he' hsub)
    by_cases h1 : q e.1 = true
    · by_cases h2 : q e.2 = true
      · have c1 := cut_cnt (p := q) ⟨m2.1, h1, h2⟩ n1 n2
        have c2 := oddL_two (lab := lab) (p := q) ⟨m2.1, h1, h2⟩ n1 n2 (hl _ n1) (he e m1 h1 h2)
        omega
      · have c0 : cutP q e = delP q e.1 := by unfold cutP; exact delP_none (by unfold delP; simp [Bool.eq_false_iff.2 h2])
        have c1 := cntP_del n1 h1
        have c2 := oddL_del (lab := lab) n1 h1 (hl _ n1)
        rw [c0] at ih
        omega
    · have c9 : delP q e.1 = q := delP_none (Bool.eq_false_iff.2 h1)
      by_cases h2 : q e.2 = true
      · have c0 : cutP q e = delP q e.2 := by unfold cutP; rw [c9]
        have c1 := cntP_del n2 h2
        have c2 := oddL_del (lab := lab) n2 h2 (hl _ n2)
        rw [c0] at ih
        omega
      · have c0 : cutP q e = q := by unfold cutP; rw [c9, delP_none (Bool.eq_false_iff.2 h2)]
        rw [c0] at ih
        omega

/-! ### The other half -/
inductive Cn (es : List Pr) (q : Nat → Bool) : Nat → Nat → Prop
  | refl (i : Nat) : Cn es q i i
  | step {i j k : Nat} {e : Pr} : Cn es q i j → e ∈ es → q e.1 = true → q e.2 = true → (j = e.1 ∧ k = e.2 ∨ j = e.2 ∧ k = e.1) → Cn es q i k
def NoMiss (es : List Pr) (p : Nat → Bool) (u v : Nat) : Prop := u ≠ v → ∀ M, Mt es p M → M.length = nu es p → u ∈ vsM M ∨ v ∈ vsM M
theorem nomiss_arc {es : List Pr} {p : Nat → Bool} {e : Pr} (he : e ∈ es) (h1 : p e.1 = true) (h2 : p e.2 = true) : NoMiss es p e.1 e.2 := fun hne M hM hl => by
  refine Classical.byContradiction fun hc => ?_
  have q1 : e.1 ∉ vsM M := fun q => hc (.inl q)
  have q2 : e.2 ∉ vsM M := fun q => hc (.inr q)
  have := nu_ge (mt_cons.2 ⟨he, ⟨hne, h1, h2⟩, hM.mono (q := cutP p e) fun w hw => cutP_iff.2 ⟨hM.in_ w hw, fun q => q1 (q ▸ hw), fun q => q2 (q ▸ hw)⟩⟩)
  rw [List.length_cons] at this
  omega
theorem NoMiss.symm {es : List Pr} {p : Nat → Bool} {u v : Nat} (h : NoMiss es p u v) : NoMiss es p v u := fun hne M hM hl => (h hne.symm M hM hl).symm
theorem nomiss_trans {es : List Pr} {p : Nat → Bool} {u t v : Nat} (hall : nu es (delP p t) = nu es p) (h1 : NoMiss es p u t) (h2 : NoMiss es p t v) : NoMiss es p u v := fun hne M hM hl => by
  by_cases hut : u = t
  · subst hut; exact h2 hne M hM hl
  by_cases htv : t = v
  · subst htv; exact h1 hne M hM hl
  refine Classical.byContradiction fun hc => ?_
  obtain ⟨N, n1, n2⟩ := nu_ex es (delP p t)
  refine gallai hM hl hne (fun q => hc (.inl q)) (fun q => hc (.inr q)) (fun N k1 k2 k3 => ⟨(h1 hut N k1 k2).resolve_right k3, (h2 htv N k1 k2).resolve_left k3⟩) _ N (n1.mono fun w hw => (delP_iff.1 (n1.in_ w hw)).1) (by rw [n2, hall]) (fun q => (delP_iff.1 (n1.in_ t q)).2 rfl) (Nat.le_refl _)
theorem cn_nomiss {es : List Pr} {p : Nat → Bool} (hall : ∀ v, p v = true → nu es (delP p v) = nu es p) {u v : Nat} (h : Cn es p u v) : NoMiss es p u v := by
  induction h with
  | refl => exact fun h => absurd rfl h
  | @step j k e _ he h1 h2 hjk ih =>
    have ha := nomiss_arc he h1 h2
    rcases hjk with ⟨rfl, rfl⟩ | ⟨rfl, rfl⟩
    · exact nomiss_trans (hall _ h1) ih ha
    · exact nomiss_trans (hall _ h2) ih ha.symm
def restP (p : Nat → Bool) (M : List Pr) : Nat → Bool := M.foldl cutP p
theorem rest_iff : ∀ {M : List Pr} {p : Nat → Bool} {v : Nat}, restP p M v = true ↔ p v = true ∧ v ∉ vsM M
  | [], p, v => ⟨fun h => ⟨h, fun q => by cases q⟩, fun h => h.1⟩
  | e :: M, p, v => by
    show restP (cutP p e) M v = true ↔ _
    rw [rest_iff, cutP_iff]
    have hv : v ∈ vsM (e :: M) ↔ v = e.1 ∨ v = e.2 ∨ v ∈ vsM M := by
      show v ∈ e.1 :: e.2 :: vsM M ↔ _
      rw [List.mem_cons, List.mem_cons]
    rw [hv]
    constructor
    · rintro ⟨⟨a, b, c⟩, d⟩; exact ⟨a, fun q => by rcases q with q | q | q; exact b q; exact c q; exact d q⟩
    · rintro ⟨a, b⟩; exact ⟨⟨a, fun q => b (.inl q), fun q => b (.inr (.inl q))⟩, fun q => b (.inr (.inr q))⟩
theorem rest_odd {n : Nat} {es : List Pr} {lab : Nat → Nat} (hl : ∀ i, i < n → lab i < n) : ∀ {M : List Pr} {p : Nat → Bool}, Mt es p M → (∀ v, p v = true → v < n) → (∀ e ∈ es, p e.1 = true → p e.2 = true → lab e.1 = lab e.2) →
    oddL n lab (restP p M) = oddL n lab p ∧ cntP n p = cntP n (restP p M) + 2 * M.length
  | [], _, _, _, _ => ⟨rfl, rfl⟩
  | e :: M, p, h, hp, he => by
    obtain ⟨m1, m2, m3⟩ := mt_cons.1 h
    have n1 := hp _ m2.2.1
    have n2 := hp _ m2.2.2
    have ih := rest_odd hl m3 (fun v hv => hp v (cutP_iff.1 hv).1) (fun x hx a b => he x hx (cutP_iff.1 a).1 (cutP_iff.1 b).1)
    have c1 := cut_cnt m2 n1 n2
    have c2 := oddL_two (lab := lab) m2 n1 n2 (hl _ n1) (he e m1 m2.2.1 m2.2.2)
    show oddL n lab (restP (cutP p e) M) = _ ∧ _ = cntP n (restP (cutP p e) M) + _
    rw [List.length_cons]
    omega
theorem oddL_full {n : Nat} {lab : Nat → Nat} (hl : ∀ i, i < n → lab i < n) : ∀ (c : Nat) (r : Nat → Bool), cntP n r = c → (∀ v, r v = true → v < n) → (∀ u v, r u = true → r v = true → lab u = lab v → u = v) → c ≤ oddL n lab r
  | 0, _, _, _, _ => Nat.zero_le _
  | c + 1, r, h, hr, hu => by
    obtain ⟨v, hv, hp⟩ := cntP_some (n := n) (p := r) (by omega)
    have h1 := cntP_del hv hp
    have h2 := oddL_full hl c (delP r v) (by omega) (fun w hw => hr w (delP_iff.1 hw).1) (fun a b ha hb => hu a b (delP_iff.1 ha).1 (delP_iff.1 hb).1)
    have h3 := oddL_del (lab := lab) hv hp (hl v hv)
    have h4 : cntP n (labP lab (delP r v) (lab v)) = 0 := cntP_zero fun w _ => by
      cases q : labP lab (delP r v) (lab v) w
      · rfl
      · unfold labP at q
        rw [Bool.and_eq_true, decide_eq_true_eq] at q
        obtain ⟨q1, q2⟩ := delP_iff.1 q.1
        exact absurd (hu w v q1 hp q.2) q2
    rw [h4] at h3
    omega
/-- Labels that tell the parts of what is at rest. -/
structure LabQ (n : Nat) (es : List Pr) (q : Nat → Bool) (lab : Nat → Nat) : Prop where
  lt : ∀ i, i < n → lab i < n
  arc : ∀ e ∈ es, q e.1 = true → q e.2 = true → lab e.1 = lab e.2
  con : ∀ i j, q i = true → q j = true → lab i = lab j → Cn es q i j
theorem tb_strong {n : Nat} {es : List Pr} : ∀ (c : Nat) (p : Nat → Bool), cntP n p = c → (∀ v, p v = true → v < n) →
    ∃ q : Nat → Bool, (∀ v, q v = true → p v = true) ∧ ∀ lab, LabQ n es q lab → 2 * cntP n p ≤ 2 * nu es p + cntP n q + oddL n lab q := by
  intro c
  induction c with
  | zero =>
    intro p hc hp
    exact ⟨p, fun v hv => hv, fun lab hl => by omega⟩
  | succ c ih =>
    intro p hc hp
    by_cases hv : ∃ v, p v = true ∧ nu es (delP p v) < nu es p
    · obtain ⟨v, h1, h2⟩ := hv
      have h3 := cntP_del (hp v h1) h1
      obtain ⟨q, q1, q2⟩ := ih (delP p v) (by omega) (fun w hw => hp w (delP_iff.1 hw).1)
      exact ⟨q, fun w hw => (delP_iff.1 (q1 w hw)).1, fun lab hl => by have := q2 lab hl; omega⟩
    · have hall : ∀ v, p v = true → nu es (delP p v) = nu es p := fun v h1 => by
        have h2 := nu_mono (es := es) (p := delP p v) (q := p) fun w hw => (delP_iff.1 hw).1
        have h3 : ¬ nu es (delP p v) < nu es p := fun q => hv ⟨v, h1, q⟩
        omega
      refine ⟨p, fun v hv => hv, fun lab hl => ?_⟩
      obtain ⟨M, m1, m2⟩ := nu_ex es p
      obtain ⟨r1, r2⟩ := rest_odd hl.lt m1 hp hl.arc
      have r3 := oddL_full hl.lt _ (restP p M) rfl (fun v hv => hp v (rest_iff.1 hv).1) (fun u v hu hv hs => by
        obtain ⟨u1, u2⟩ := rest_iff.1 hu
        obtain ⟨v1, v2⟩ := rest_iff.1 hv
        refine Classical.byContradiction fun hne => ?_
        rcases cn_nomiss hall (hl.con u v u1 v1 hs) hne M m1 m2 with h | h
        · exact u2 h
        · exact v2 h)
      omega
end Go.Ab
