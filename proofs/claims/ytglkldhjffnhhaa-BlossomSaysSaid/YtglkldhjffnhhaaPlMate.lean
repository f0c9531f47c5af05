/- Of pairs of any who go together (Gallai, Tutte, Berge): the plain laws. -/
import Derived.Test.YtglkldhjffnhhaaPlA
namespace Go.Ab
abbrev Pr := Nat × Nat
def vsM (M : List Pr) : List Nat := M.flatMap fun e => [e.1, e.2]
def inP (p : Nat → Bool) (e : Pr) : Prop := e.1 ≠ e.2 ∧ p e.1 = true ∧ p e.2 = true
instance (p : Nat → Bool) (e : Pr) : Decidable (inP p e) := by unfold inP; infer_instance
def delP (p : Nat → Bool) (v : Nat) : Nat → Bool := fun w => p w && !decide (w = v)
def cutP (p : Nat → Bool) (e : Pr) : Nat → Bool := delP (delP p e.1) e.2
theorem delP_iff {p : Nat → Bool} {v w : Nat} : delP p v w = true ↔ p w = true ∧ w ≠ v := by unfold delP; simp
theorem cutP_iff {p : Nat → Bool} {e : Pr} {w : Nat} : cutP p e w = true ↔ p w = true ∧ w ≠ e.1 ∧ w ≠ e.2 := by unfold cutP; rw [delP_iff, delP_iff]; exact and_assoc
theorem mem_vs {M : List Pr} {v : Nat} : v ∈ vsM M ↔ ∃ e ∈ M, v = e.1 ∨ v = e.2 := by
  unfold vsM
  rw [List.mem_flatMap]
  constructor
  · rintro ⟨e, he, h⟩; exact ⟨e, he, by simpa using h⟩
  · rintro ⟨e, he, h⟩; exact ⟨e, he, by simpa using h⟩
theorem vs_len : ∀ (M : List Pr), (vsM M).length = 2 * M.length
  | [] => rfl
  | e :: M => by
    show ([e.1, e.2] ++ vsM M).length = _
    rw [List.length_append, vs_len M, List.length_cons]; simp only [List.length_cons, List.length_nil]; omega
theorem vs_perm {M N : List Pr} (h : M.Perm N) : (vsM M).Perm (vsM N) := by
  induction h with
  | nil => exact .refl _
  | cons e _ ih => exact List.Perm.append_left _ ih
  | swap a b l =>
    show ([b.1, b.2] ++ ([a.1, a.2] ++ vsM l)).Perm ([a.1, a.2] ++ ([b.1, b.2] ++ vsM l))
    rw [← List.append_assoc, ← List.append_assoc]
    exact List.Perm.append_right _ List.perm_append_comm
  | trans _ _ h1 h2 => exact h1.trans h2
structure Mt (es : List Pr) (p : Nat → Bool) (M : List Pr) : Prop where
  mem : ∀ e ∈ M, e ∈ es
  nd : (vsM M).Nodup
  in_ : ∀ v ∈ vsM M, p v = true
theorem Mt.nil {es : List Pr} {p : Nat → Bool} : Mt es p [] := ⟨fun e h => (by cases h), List.nodup_nil, fun v h => (by cases h)⟩
theorem mt_cons {es : List Pr} {p : Nat → Bool} {e : Pr} {M : List Pr} : Mt es p (e :: M) ↔ e ∈ es ∧ inP p e ∧ Mt es (cutP p e) M := by
  have hv : vsM (e :: M) = e.1 :: e.2 :: vsM M := rfl
  constructor
  · intro h
    have h1 := h.nd
    have h2 := h.in_
    rw [hv] at h1 h2
    have h3 := List.nodup_cons.1 h1
    have h4 := List.nodup_cons.1 h3.2
    refine ⟨h.mem _ List.mem_cons_self, ⟨fun q => h3.1 (by rw [q]; exact List.mem_cons_self), h2 _ List.mem_cons_self, h2 _ (List.mem_cons_of_mem _ List.mem_cons_self)⟩, fun x hx => h.mem x (List.mem_cons_of_mem _ hx), h4.2, fun v hv => cutP_iff.2 ⟨h2 v (List.mem_cons_of_mem _ (List.mem_cons_of_mem _ hv)), ?_, ?_⟩⟩
    · rintro rfl; exact h3.1 (List.mem_cons_of_mem _ hv)
    · rintro rfl; exact h4.1 hv
  · rintro ⟨h1, ⟨h2, h3, h4⟩, h5⟩
    refine ⟨fun x hx => ?_, ?_, fun v hv' => ?_⟩
    · rcases List.mem_cons.1 hx with rfl | hx
      · exact h1
      · exact h5.mem x hx
    · rw [hv]
      refine List.nodup_cons.2 ⟨fun q => ?_, List.nodup_cons.2 ⟨fun q => ?_, h5.nd⟩⟩
      · rcases List.mem_cons.1 q with q | q
        · exact h2 q
        · exact (cutP_iff.1 (h5.in_ _ q)).2.1 rfl
      · exact (cutP_iff.1 (h5.in_ _ q)).2.2 rfl
    · rw [hv] at hv'
      rcases List.mem_cons.1 hv' with rfl | hv'
      · exact h3
      rcases List.mem_cons.1 hv' with rfl | hv'
      · exact h4
      · exact (cutP_iff.1 (h5.in_ _ hv')).1
theorem Mt.perm {es : List Pr} {p : Nat → Bool} {M N : List Pr} (h : Mt es p M) (hp : M.Perm N) : Mt es p N :=
  ⟨fun e he => h.mem e (hp.mem_iff.2 he), (vs_perm hp).nodup_iff.1 h.nd, fun v hv => h.in_ v ((vs_perm hp).mem_iff.2 hv)⟩
theorem Mt.erase {es : List Pr} {p : Nat → Bool} {M : List Pr} {e : Pr} (h : Mt es p M) (he : e ∈ M) : e ∈ es ∧ inP p e ∧ Mt es (cutP p e) (M.erase e) := mt_cons.1 (h.perm (List.perm_cons_erase he))
theorem Mt.mono {es : List Pr} {p q : Nat → Bool} {M : List Pr} (h : Mt es p M) (hq : ∀ v ∈ vsM M, q v = true) : Mt es q M := ⟨h.mem, h.nd, hq⟩
def nu : List Pr → (Nat → Bool) → Nat
  | [], _ => 0
  | e :: r, p => max (nu r p) (if inP p e then 1 + nu r (cutP p e) else 0)
theorem nu_ge : ∀ {es : List Pr} {p : Nat → Bool} {M : List Pr}, Mt es p M → M.length ≤ nu es p
  | [], p, M, h => by
    cases M with
    | nil => exact Nat.le_refl _
    | cons e M => exact absurd (h.mem e List.mem_cons_self) (by simp)
  | e :: r, p, M, h => by
    unfold nu
    by_cases he : e ∈ M
    · obtain ⟨_, h2, h3⟩ := h.erase he
      have h4 : Mt r (cutP p e) (M.erase e) := ⟨fun x hx => by
        rcases List.mem_cons.1 (h3.mem x hx) with rfl | q
        · exact absurd rfl (cutP_iff.1 (h3.in_ x.1 (mem_vs.2 ⟨x, hx, .inl rfl⟩))).2.1
        · exact q, h3.nd, h3.in_⟩
      have h5 := nu_ge h4
      have h6 := List.length_erase_of_mem he
      have h7 := List.length_pos_of_mem he
      rw [if_pos h2]
      omega
    · have h4 : Mt r p M := ⟨fun x hx => by
        rcases List.mem_cons.1 (h.mem x hx) with rfl | q
        · exact absurd hx he
        · exact q, h.nd, h.in_⟩
      have h5 := nu_ge h4
      omega
theorem Mt.more {es es' : List Pr} {p : Nat → Bool} {M : List Pr} (h : Mt es p M) (hs : ∀ e ∈ es, e ∈ es') : Mt es' p M := ⟨fun e he => hs e (h.mem e he), h.nd, h.in_⟩
theorem nu_ex : ∀ (es : List Pr) (p : Nat → Bool), ∃ M, Mt es p M ∧ M.length = nu es p
  | [], p => ⟨[], Mt.nil, rfl⟩
  | e :: r, p => by
    unfold nu
    obtain ⟨M, h1, h2⟩ := nu_ex r p
    obtain ⟨N, h3, h4⟩ := nu_ex r (cutP p e)
    by_cases hc : inP p e ∧ nu r p ≤ 1 + nu r (cutP p e)
    · refine ⟨e :: N, mt_cons.2 ⟨List.mem_cons_self, hc.1, h3.more fun x hx => List.mem_cons_of_mem _ hx⟩, ?_⟩
      rw [if_pos hc.1, List.length_cons]; omega
    · refine ⟨M, h1.more fun x hx => List.mem_cons_of_mem _ hx, ?_⟩
      by_cases hi : inP p e
      · rw [if_pos hi]
        have : ¬ nu r p ≤ 1 + nu r (cutP p e) := fun q => hc ⟨hi, q⟩
        omega
      · rw [if_neg hi]; omega
theorem nu_mono {es : List Pr} {p q : Nat → Bool} (h : ∀ v, p v = true → q v = true) : nu es p ≤ nu es q := by
  obtain ⟨M, h1, h2⟩ := nu_ex es p
  rw [← h2]
  exact nu_ge (h1.mono fun v hv => h v (h1.in_ v hv))
theorem nu_arc {es : List Pr} {p : Nat → Bool} {e : Pr} (he : e ∈ es) (hi : inP p e) : 1 + nu es (cutP p e) ≤ nu es p := by
  obtain ⟨M, h1, h2⟩ := nu_ex es (cutP p e)
  have := nu_ge (mt_cons.2 ⟨he, hi, h1⟩)
  rw [List.length_cons] at this
  omega
/-- A node is in an arc of a greatest matching, or may be left out. -/
theorem nu_low {es : List Pr} {p : Nat → Bool} (v : Nat) : nu es p = nu es (delP p v) ∨ ∃ e ∈ es, inP p e ∧ (v = e.1 ∨ v = e.2) ∧ nu es p = 1 + nu es (cutP p e) := by
  obtain ⟨M, h1, h2⟩ := nu_ex es p
  by_cases hv : v ∈ vsM M
  · obtain ⟨e, he, h3⟩ := mem_vs.1 hv
    obtain ⟨h4, h5, h6⟩ := h1.erase he
    have h7 := nu_ge h6
    have h8 := nu_arc h4 h5
    have h9 := List.length_erase_of_mem he
    exact .inr ⟨e, h4, h5, h3, by omega⟩
  · have h3 := nu_ge (h1.mono (q := delP p v) fun w hw => delP_iff.2 ⟨h1.in_ w hw, fun q => hv (q ▸ hw)⟩)
    have h4 := nu_mono (es := es) (p := delP p v) (q := p) (fun w hw => (delP_iff.1 hw).1)
    exact .inl (by omega)
theorem nu_none {es : List Pr} {p : Nat → Bool} (h : ∀ e ∈ es, inP p e → nu es p ≠ 1 + nu es (cutP p e)) : nu es p = 0 := by
  obtain ⟨M, h1, h2⟩ := nu_ex es p
  cases M with
  | nil => exact h2.symm
  | cons e M =>
    obtain ⟨h3, h4, h5⟩ := mt_cons.1 h1
    have h6 := nu_ge h5
    have h7 := nu_arc h3 h4
    rw [List.length_cons] at h2
    exact absurd (by omega) (h e h3 h4)
/-- An arc that is in no greatest matching is in none of what a greatest matching leaves. -/
theorem nu_keep {es : List Pr} {p : Nat → Bool} {a b : Pr} (ha : a ∈ es) (hb : b ∈ es) (hia : inP p a) (h : nu es p = 1 + nu es (cutP p a)) (hib : inP (cutP p a) b) (hn : nu es p ≠ 1 + nu es (cutP p b)) :
    nu es (cutP p a) ≠ 1 + nu es (cutP (cutP p a) b) := fun q => by
  obtain ⟨b0, b1, b2⟩ := hib
  have b3 := cutP_iff.1 b1
  have b4 := cutP_iff.1 b2
  have h1 : inP (cutP p b) a := ⟨hia.1, cutP_iff.2 ⟨hia.2.1, b3.2.1.symm, b4.2.1.symm⟩, cutP_iff.2 ⟨hia.2.2, b3.2.2.symm, b4.2.2.symm⟩⟩
  have h2 := nu_arc ha h1
  have h3 : cutP (cutP p b) a = cutP (cutP p a) b := by
    funext v
    unfold cutP delP
    cases p v <;> cases decide (v = a.1) <;> cases decide (v = a.2) <;> cases decide (v = b.1) <;> cases decide (v = b.2) <;> rfl
  rw [h3] at h2
  have h4 := nu_arc hb (p := p) ⟨b0, b3.1, b4.1⟩
  omega

/-! ### Gallai's lemma -/
theorem filter_lt {α : Type} {p q : α → Bool} : ∀ {l : List α}, (∀ x ∈ l, p x = true → q x = true) → (∃ x ∈ l, q x = true ∧ p x = false) → (l.filter p).length < (l.filter q).length
  | [], _, ⟨x, hx, _⟩ => by cases hx
  | y :: r, h, ⟨x, hx, h1, h2⟩ => by
    have hr : ∀ x ∈ r, p x = true → q x = true := fun x hx => h x (List.mem_cons_of_mem _ hx)
    have hle : (r.filter p).length ≤ (r.filter q).length := by
      rw [← List.countP_eq_length_filter, ← List.countP_eq_length_filter]
      exact List.countP_mono_left hr
    rw [List.filter_cons, List.filter_cons]
    rcases List.mem_cons.1 hx with rfl | hx
    · rw [if_neg (by rw [h2]; decide), if_pos h1]; simp only [List.length_cons]; omega
    · have := filter_lt hr ⟨x, hx, h1, h2⟩
      have hy := h y List.mem_cons_self
      by_cases hp : p y = true
      · rw [if_pos hp, if_pos (hy hp)]; simp only [List.length_cons]; omega
      · rw [if_neg hp]; split <;> (try simp only [List.length_cons]) <;> omega
/-- Of two arcs of a matching no two have a node in common. -/
theorem Mt.apart {es : List Pr} {p : Nat → Bool} {M : List Pr} (h : Mt es p M) {e f : Pr} (he : e ∈ M) (hf : f ∈ M) {v : Nat} (h1 : v = e.1 ∨ v = e.2) (h2 : v = f.1 ∨ v = f.2) : e = f := by
  refine Classical.byContradiction fun hne => ?_
  obtain ⟨_, _, h3⟩ := h.erase he
  have h4 := h3.in_ v (mem_vs.2 ⟨f, (List.mem_erase_of_ne (Ne.symm hne)).2 hf, h2⟩)
  have h5 := cutP_iff.1 h4
  rcases h1 with h1 | h1
  · exact h5.2.1 h1
  · exact h5.2.2 h1
theorem gallai {es : List Pr} {p : Nat → Bool} {M : List Pr} {u v t : Nat} (hM : Mt es p M) (hMl : M.length = nu es p) (huv : u ≠ v) (hu : u ∉ vsM M) (hv : v ∉ vsM M)
    (hN : ∀ N, Mt es p N → N.length = nu es p → t ∉ vsM N → u ∈ vsM N ∧ v ∈ vsM N) : ∀ (d : Nat) (N : List Pr), Mt es p N → N.length = nu es p → t ∉ vsM N → (M.filter fun e => !decide (e ∈ N)).length ≤ d → False := by
  intro d
  induction d with
  | zero =>
    intro N h1 h2 h3 h4
    obtain ⟨h5, h6⟩ := hN N h1 h2 h3
    have h7 : M.filter (fun e => !decide (e ∈ N)) = [] := List.eq_nil_of_length_eq_zero (by omega)
    have h8 : ∀ e ∈ M, e ∈ N := fun e he => by
      have := List.filter_eq_nil_iff.1 h7 e he
      simpa using this
    have h9 := nodup_len (l := u :: vsM M) (m := vsM N) (List.nodup_cons.2 ⟨hu, hM.nd⟩) (fun x hx => by
      rcases List.mem_cons.1 hx with rfl | hx
      · exact h5
      · obtain ⟨e, he, q⟩ := mem_vs.1 hx
        exact mem_vs.2 ⟨e, h8 e he, q⟩)
    rw [List.length_cons, vs_len, vs_len] at h9
    omega
  | succ d ih =>
    intro N h1 h2 h3 h4
    obtain ⟨h5, h6⟩ := hN N h1 h2 h3
    have hx : ∃ x ∈ vsM M, x ∉ vsM N ∧ x ≠ t := by
      refine Classical.byContradiction fun hc => ?_
      have hall : ∀ x ∈ vsM M, x ∈ t :: vsM N := fun x hx => by
        by_cases q : x = t
        · subst q; exact List.mem_cons_self
        · by_cases q2 : x ∈ vsM N
          · exact List.mem_cons_of_mem _ q2
          · exact absurd ⟨x, hx, q2, q⟩ hc
      have h9 := nodup_len (l := u :: v :: vsM M) (m := t :: vsM N) (List.nodup_cons.2 ⟨fun q => by rcases List.mem_cons.1 q with q | q; exact huv q; exact hu q, List.nodup_cons.2 ⟨hv, hM.nd⟩⟩) (fun x hx => by
        rcases List.mem_cons.1 hx with rfl | hx
        · exact List.mem_cons_of_mem _ h5
        rcases List.mem_cons.1 hx with rfl | hx
        · exact List.mem_cons_of_mem _ h6
        · exact hall x hx)
      simp only [List.length_cons, vs_len] at h9
      omega
    obtain ⟨x, hx, hxN, hxt⟩ := hx
    obtain ⟨e, he, hxe⟩ := mem_vs.1 hx
    obtain ⟨e1, e2, _⟩ := hM.erase he
    have hy : ∃ y, (y = e.1 ∨ y = e.2) ∧ y ≠ x ∧ ∀ z, (z = e.1 ∨ z = e.2) → z = x ∨ z = y := by
      rcases hxe with rfl | rfl
      · exact ⟨e.2, .inr rfl, e2.1.symm, fun z hz => hz⟩
      · exact ⟨e.1, .inl rfl, e2.1, fun z hz => hz.symm⟩
    obtain ⟨y, hye, hyx, hxy⟩ := hy
    have hyN : y ∈ vsM N := by
      refine Classical.byContradiction fun hc => ?_
      have := nu_ge (mt_cons.2 ⟨e1, e2, h1.mono (q := cutP p e) fun w hw => cutP_iff.2 ⟨h1.in_ w hw, fun q => ?_, fun q => ?_⟩⟩)
      · rw [List.length_cons] at this; omega
      · rcases hxy w (.inl q) with rfl | rfl
        · exact hxN hw
        · exact hc hw
      · rcases hxy w (.inr q) with rfl | rfl
        · exact hxN hw
        · exact hc hw
    obtain ⟨f, hf, hyf⟩ := mem_vs.1 hyN
    obtain ⟨f1, f2, f3⟩ := h1.erase hf
    have heN : e ∉ N := fun q => hxN (mem_vs.2 ⟨e, q, hxe⟩)
    have hfM : f ∉ M := fun q => heN (hM.apart he q hye hyf ▸ hf)
    have hvx : ∀ w ∈ vsM (N.erase f), w ∈ vsM N := fun w hw => by
      obtain ⟨g, hg, q⟩ := mem_vs.1 hw
      exact mem_vs.2 ⟨g, List.mem_of_mem_erase hg, q⟩
    have hN' : Mt es p (e :: N.erase f) := mt_cons.2 ⟨e1, e2, f3.mem, f3.nd, fun w hw => by
      have q := cutP_iff.1 (f3.in_ w hw)
      have hwx : w ≠ x := fun q2 => hxN (q2 ▸ hvx w hw)
      have hwy : w ≠ y := fun q2 => by
        rcases hyf with q3 | q3
        · exact q.2.1 (q2.trans q3)
        · exact q.2.2 (q2.trans q3)
      refine cutP_iff.2 ⟨q.1, fun q2 => ?_, fun q2 => ?_⟩
      · rcases hxy w (.inl q2) with q3 | q3
        · exact hwx q3
        · exact hwy q3
      · rcases hxy w (.inr q2) with q3 | q3
        · exact hwx q3
        · exact hwy q3⟩
    refine ih (e :: N.erase f) hN' ?_ ?_ ?_
    · have := List.length_erase_of_mem hf
      have := List.length_pos_of_mem hf
      rw [List.length_cons]; omega
    · intro q
      obtain ⟨g, hg, hq⟩ := mem_vs.1 q
      rcases List.mem_cons.1 hg with rfl | hg
      · rcases hxy t hq with q2 | q2
        · exact hxt q2.symm
        · exact h3 (q2 ▸ hyN)
      · exact h3 (hvx t (mem_vs.2 ⟨g, hg, hq⟩))
    · have := filter_lt (l := M) (p := fun g => !decide (g ∈ e :: N.erase f)) (q := fun g => !decide (g ∈ N)) (fun g hg q => by
        simp only [Bool.not_eq_true', decide_eq_false_iff_not] at q ⊢
        intro hgN
        by_cases hgf : g = f
        · exact hfM (hgf ▸ hg)
        · exact q (List.mem_cons_of_mem _ ((List.mem_erase_of_ne hgf).2 hgN))) ⟨e, he, by simpa using heN, by simp⟩
      omega
end Go.Ab
