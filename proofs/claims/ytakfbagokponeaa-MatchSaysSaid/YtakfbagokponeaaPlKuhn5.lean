/- Of pairs of two sides: what holds them all, what is short: the law. -/
import Derived.Test.YtakfbagokponeaaPlKuhn4
import Derived.Test.YtakfbagokponeaaPlA
namespace Go.Ab
theorem bij_count {m n : Nat} {p q : Nat → Bool} {f : Nat → Nat} (h1 : ∀ y, y < n → q y = true → f y < m ∧ p (f y) = true) (h2 : ∀ y z, y < n → z < n → q y = true → q z = true → f y = f z → y = z) (h3 : ∀ u, u < m → p u = true → ∃ y, y < n ∧ q y = true ∧ f y = u) : (List.range m).countP p = (List.range n).countP q := by
  have hmn : ((List.range n).filter q |>.map f).Nodup := by
    refine List.Pairwise.map f (R := fun a b => f a ≠ f b) (fun a b h => h) ?_
    rw [List.pairwise_filter]
    refine List.Pairwise.imp_of_mem ?_ (List.nodup_range (n := n))
    intro a b ha hb hab qa qb e
    exact hab (h2 a b (List.mem_range.1 ha) (List.mem_range.1 hb) qa qb e)
  have hfn : ((List.range m).filter p).Nodup := List.Nodup.sublist List.filter_sublist List.nodup_range
  have l1 := nodup_len hmn (m := (List.range m).filter p) (fun x hx => by
    obtain ⟨y, hy, rfl⟩ := List.mem_map.1 hx
    obtain ⟨y1, y2⟩ := List.mem_filter.1 hy
    obtain ⟨z1, z2⟩ := h1 y (List.mem_range.1 y1) y2
    exact List.mem_filter.2 ⟨List.mem_range.2 z1, z2⟩)
  have l2 := nodup_len hfn (m := ((List.range n).filter q).map f) (fun x hx => by
    obtain ⟨y1, y2⟩ := List.mem_filter.1 hx
    obtain ⟨y, q1, q2, q3⟩ := h3 x (List.mem_range.1 y1) y2
    exact List.mem_map.2 ⟨y, List.mem_filter.2 ⟨List.mem_range.2 q1, q2⟩, q3⟩)
  rw [List.length_map] at l1 l2
  rw [List.countP_eq_length_filter, List.countP_eq_length_filter]
  omega
theorem count_split {α : Type} {p q : α → Bool} : ∀ {l : List α}, (∀ x ∈ l, q x = true → p x = true) → l.countP p = l.countP (fun x => p x && !q x) + l.countP q
  | [], _ => rfl
  | a :: l, h => by
    have ih := count_split (l := l) fun x hx => h x (List.mem_cons_of_mem _ hx)
    have ha := h a List.mem_cons_self
    rw [List.countP_cons, List.countP_cons, List.countP_cons, ih]
    cases ep : p a <;> cases eq : q a <;> simp_all <;> omega
theorem has_full {m : Int} {v : Nat} : has (fullM m) v = decide (v < m.toNat) := has_mask
theorem has_free {l : List Arc} {m : Int} {M : List Int} {u : Nat} : ∀ k, has (freeTo l m M k) u = true ↔ u < m.toNat ∧ ∀ y, y < k → onM M y → (lfM l M y).toNat ≠ u
  | 0 => by
    rw [freeTo, has_full, decide_eq_true_eq]
    exact ⟨fun h => ⟨h, fun y hy => by omega⟩, fun h => h.1⟩
  | k + 1 => by
    have ih := has_free (l := l) (m := m) (M := M) (u := u) k
    rw [freeTo]
    split
    · rename_i hk
      rw [has_iandn, Bool.and_eq_true, ih, has_pow, Bool.not_eq_true', decide_eq_false_iff_not]
      constructor
      · rintro ⟨⟨a1, a2⟩, a3⟩
        refine ⟨a1, fun y hy ho => ?_⟩
        rcases Nat.lt_succ_iff_lt_or_eq.1 hy with q | rfl
        · exact a2 y q ho
        · exact a3
      · rintro ⟨a1, a2⟩
        exact ⟨⟨a1, fun y hy => a2 y (by omega)⟩, a2 k (by omega) hk⟩
    · rename_i hk
      rw [ih]
      constructor
      · rintro ⟨a1, a2⟩
        refine ⟨a1, fun y hy ho => ?_⟩
        rcases Nat.lt_succ_iff_lt_or_eq.1 hy with q | rfl
        · exact a2 y q ho
        · exact absurd ho hk
      · rintro ⟨a1, a2⟩
        exact ⟨a1, fun y hy => a2 y (by omega)⟩
theorem has_sec {l : List Arc} {F S : Int} (hF : 0 ≤ F) {v : Nat} : ∀ k, has (secTo l F S k) v = true ↔ has S v = true ∨ ∃ j, j < k ∧ has F (l.getD j default).src.toNat = true ∧ dK l j = v
  | 0 => by
    rw [secTo]
    exact ⟨.inl, fun h => h.elim id (fun ⟨j, h1, _⟩ => by omega)⟩
  | k + 1 => by
    have ih := has_sec (l := l) (S := S) hF (v := v) k
    rw [secTo]
    split
    · rename_i hk
      rw [bit_yes hF] at hk
      rw [has_ior, Bool.or_eq_true, ih, has_pow, decide_eq_true_eq]
      constructor
      · rintro ((h | ⟨j, j1, j2, j3⟩) | h)
        · exact .inl h
        · exact .inr ⟨j, by omega, j2, j3⟩
        · exact .inr ⟨k, by omega, hk, h⟩
      · rintro (h | ⟨j, j1, j2, j3⟩)
        · exact .inl (.inl h)
        · rcases Nat.lt_succ_iff_lt_or_eq.1 j1 with q | rfl
          · exact .inl (.inr ⟨j, q, j2, j3⟩)
          · exact .inr j3
    · rename_i hk
      rw [bit_yes hF] at hk
      rw [ih]
      constructor
      · rintro (h | ⟨j, j1, j2, j3⟩)
        · exact .inl h
        · exact .inr ⟨j, by omega, j2, j3⟩
      · rintro (h | ⟨j, j1, j2, j3⟩)
        · exact .inl h
        · rcases Nat.lt_succ_iff_lt_or_eq.1 j1 with q | rfl
          · exact .inr ⟨j, q, j2, j3⟩
          · exact absurd j2 hk
theorem has_fst {l : List Arc} {M : List Int} {S F : Int} (hS : 0 ≤ S) {u : Nat} : ∀ k, has (fstTo l M S F k) u = true ↔ has F u = true ∨ ∃ y, y < k ∧ onM M y ∧ has S y = true ∧ (lfM l M y).toNat = u
  | 0 => by
    rw [fstTo]
    exact ⟨.inl, fun h => h.elim id (fun ⟨j, h1, _⟩ => by omega)⟩
  | k + 1 => by
    have ih := has_fst (l := l) (M := M) (F := F) hS (u := u) k
    have hb : bit S (k : Int) = 1 ↔ has S k = true := bit_yes hS
    rw [fstTo]
    split
    · rename_i hk
      have hk : 0 ≤ M.getD k 0 ∧ has S k = true := ⟨hk.1, hb.1 hk.2⟩
      rw [has_ior, Bool.or_eq_true, ih, has_pow, decide_eq_true_eq]
      constructor
      · rintro ((h | ⟨j, j1, j2, j3⟩) | h)
        · exact .inl h
        · exact .inr ⟨j, by omega, j2, j3⟩
        · exact .inr ⟨k, by omega, hk.1, hk.2, h⟩
      · rintro (h | ⟨j, j1, j2, j3, j4⟩)
        · exact .inl (.inl h)
        · rcases Nat.lt_succ_iff_lt_or_eq.1 j1 with q | rfl
          · exact .inl (.inr ⟨j, q, j2, j3, j4⟩)
          · exact .inr j4
    · rename_i hk
      rw [ih]
      constructor
      · rintro (h | ⟨j, j1, j2, j3⟩)
        · exact .inl h
        · exact .inr ⟨j, by omega, j2, j3⟩
      · rintro (h | ⟨j, j1, j2, j3, j4⟩)
        · exact .inl h
        · rcases Nat.lt_succ_iff_lt_or_eq.1 j1 with q | rfl
          · exact .inr ⟨j, q, j2, j3, j4⟩
          · exact absurd ⟨j2, hb.2 j3⟩ hk
/-! ### The rounds -/
section
variable {m n : Int} {l : List Arc}
abbrev ME5 (m n : Int) (l : List Arc) : List Int := matesP l n.toNat m.toNat
/-- A first side that has none. -/
def FreeK (m n : Int) (l : List Arc) (u : Nat) : Prop := u < m.toNat ∧ ∀ y, y < n.toNat → onM (ME5 m n l) y → (lfM l (ME5 m n l) y).toNat ≠ u
theorem MatchOk.mx (h : MatchOk m n l) : MtxK l n.toNat ((m.toNat : Nat) : Int) (ME5 m n l) ∧ ∀ N, MtxK l n.toNat ((m.toNat : Nat) : Int) N → cntM N ≤ cntM (ME5 m n l) := mates_max h.dstIn (fun k hk => (h.src k hk).1) m.toNat
theorem MatchOk.lf0 (h : MatchOk m n l) {y : Nat} (hy : y < n.toNat) (ho : onM (ME5 m n l) y) : 0 ≤ lfM l (ME5 m n l) y ∧ lfM l (ME5 m n l) y < m := by
  rcases h.mx.1.mt.ok y hy with q | ⟨q1, q2, q3⟩
  · unfold onM at ho; omega
  · exact h.src _ (by omega)
theorem MatchOk.lost (h : MatchOk m n l) {u : Nat} (hu : FreeK m n l u) : ∃ S, LostK l n.toNat u (List.replicate n.toNat false) S (ME5 m n l) := by
  obtain ⟨g1, g2⟩ := h.mx
  have hF := find_spec h.dstIn (n.toNat + 1) u _ _ (g1.ask (i := u) fun y hy ho => fun e => hu.2 y hy ho (by rw [e, Int.toNat_natCast])) (by have := uns_start n.toNat; omega)
  by_cases c : (findP l (n.toNat + 1) u (List.replicate n.toNat false) (ME5 m n l)).2.2 = true
  · have hW := hF.yes c
    have h1 := g2 _ (hW.mtx g1 (by have := hu.1; omega))
    have h2 := hW.cnt
    omega
  · exact ⟨_, (hF.no (by simpa using c)).2⟩
/-- What is known of each round. -/
structure RndK (m n : Int) (l : List Arc) (r : Nat) : Prop where
  sec : ∀ v, has (rndTo l m (ME5 m n l) r).2 v = true → v < n.toNat ∧ onM (ME5 m n l) v ∧ ∃ (u : Nat) (S : List Bool), LostK l n.toNat u (List.replicate n.toNat false) S (ME5 m n l) ∧ snK S v
  fst : ∀ u, has (rndTo l m (ME5 m n l) r).1 u = true → u < m.toNat ∧ (FreeK m n l u ∨ ∃ y, y < n.toNat ∧ has (rndTo l m (ME5 m n l) r).2 y = true ∧ onM (ME5 m n l) y ∧ (lfM l (ME5 m n l) y).toNat = u)
  free : ∀ u, FreeK m n l u → has (rndTo l m (ME5 m n l) r).1 u = true
  back : ∀ y, y < n.toNat → has (rndTo l m (ME5 m n l) r).2 y = true → onM (ME5 m n l) y → has (rndTo l m (ME5 m n l) r).1 (lfM l (ME5 m n l) y).toNat = true
theorem MatchOk.r16 (h : MatchOk m n l) (r : Nat) : B16 (rndTo l m (ME5 m n l) r).1 ∧ B16 (rndTo l m (ME5 m n l) r).2 :=
  rnd_16 h.m12 (fun k hk => by have := h.dst k hk; have := h.n12; omega) (lf_le (mates_ok l n.toNat m.toNat) h.src h.m12) r
theorem MatchOk.sec_succ (h : MatchOk m n l) (r v : Nat) : has (rndTo l m (ME5 m n l) (r + 1)).2 v = true ↔ has (rndTo l m (ME5 m n l) r).2 v = true ∨ ∃ j, j < l.length ∧ has (rndTo l m (ME5 m n l) r).1 (l.getD j default).src.toNat = true ∧ dK l j = v := has_sec (h.r16 r).1.1 l.length
theorem MatchOk.fst_succ (h : MatchOk m n l) (r u : Nat) : has (rndTo l m (ME5 m n l) (r + 1)).1 u = true ↔ has (rndTo l m (ME5 m n l) r).1 u = true ∨ ∃ y, y < n.toNat ∧ onM (ME5 m n l) y ∧ has (rndTo l m (ME5 m n l) (r + 1)).2 y = true ∧ (lfM l (ME5 m n l) y).toNat = u := by
  have := has_fst (l := l) (M := ME5 m n l) (F := (rndTo l m (ME5 m n l) r).1) (h.r16 (r + 1)).2.1 (u := u) (ME5 m n l).length
  rw [(mates_ok l n.toNat m.toNat).1] at this
  have e : (rndTo l m (ME5 m n l) (r + 1)).1 = fstTo l (ME5 m n l) (rndTo l m (ME5 m n l) (r + 1)).2 (rndTo l m (ME5 m n l) r).1 n.toNat := by
    rw [← (mates_ok l n.toNat m.toNat).1]; rfl
  rw [e]; exact this
theorem MatchOk.rnd (h : MatchOk m n l) : ∀ r, RndK m n l r
  | 0 => by
    have hz : ∀ v, has (rndTo l m (ME5 m n l) 0).2 v = true → False := fun v q => by
      have : has 0 v = true := q
      rw [has_zero] at this; cases this
    have hf : ∀ u, has (rndTo l m (ME5 m n l) 0).1 u = true ↔ FreeK m n l u := fun u => by
      have := has_free (l := l) (m := m) (M := ME5 m n l) (u := u) (ME5 m n l).length
      rw [(mates_ok l n.toNat m.toNat).1] at this
      have e : (rndTo l m (ME5 m n l) 0).1 = freeTo l m (ME5 m n l) n.toNat := by rw [← (mates_ok l n.toNat m.toNat).1]; rfl
      rw [e]; exact this
    exact ⟨fun v q => (hz v q).elim, fun u q => ⟨((hf u).1 q).1, .inl ((hf u).1 q)⟩, fun u q => (hf u).2 q, fun y _ q => (hz y q).elim⟩
  | r + 1 => by
    have ih := MatchOk.rnd h r
    have key : ∀ v, has (rndTo l m (ME5 m n l) (r + 1)).2 v = true → v < n.toNat ∧ onM (ME5 m n l) v ∧ ∃ (u : Nat) (S : List Bool), LostK l n.toNat u (List.replicate n.toNat false) S (ME5 m n l) ∧ snK S v := fun v hv => by
      rcases (h.sec_succ r v).1 hv with q | ⟨j, j1, j2, j3⟩
      · exact ih.sec v q
      · have hvn : v < n.toNat := by have := h.dst j j1; unfold dK at j3; omega
        have hsr := (h.src j j1).1
        obtain ⟨u1, u2⟩ := ih.fst _ j2
        have hS : ∃ (u : Nat) (S : List Bool), LostK l n.toNat u (List.replicate n.toNat false) S (ME5 m n l) ∧ snK S v := by
          rcases u2 with u2 | ⟨y, y1, y2, y3, y4⟩
          · obtain ⟨S, hL⟩ := h.lost u2
            exact ⟨_, S, hL, by rw [← j3]; exact hL.arcs j j1 (by omega)⟩
          · obtain ⟨_, _, u, S, hL, hs⟩ := ih.sec y y2
            have h0 := h.lf0 y1 y3
            exact ⟨u, S, hL, by rw [← j3]; exact (hL.cl y y1 hs none_sn).2 j j1 (by omega)⟩
        obtain ⟨u, S, hL, hs⟩ := hS
        exact ⟨hvn, (hL.cl v hvn hs none_sn).1, u, S, hL, hs⟩
    refine ⟨key, fun u hu => ?_, fun u hu => (h.fst_succ r u).2 (.inl (ih.free u hu)), fun y hy hs ho => (h.fst_succ r _).2 (.inr ⟨y, hy, ho, hs, rfl⟩)⟩
    rcases (h.fst_succ r u).1 hu with q | ⟨y, y1, y2, y3, y4⟩
    · obtain ⟨u1, u2⟩ := ih.fst u q
      refine ⟨u1, u2.imp id ?_⟩
      rintro ⟨y, y1, y2, y3, y4⟩
      exact ⟨y, y1, (h.sec_succ r y).2 (.inl y2), y3, y4⟩
    · have h0 := h.lf0 y1 y2
      exact ⟨by omega, .inr ⟨y, y1, y3, y2, y4⟩⟩
/-- Nothing more is come to. -/
theorem MatchOk.fix (h : MatchOk m n l) : rndTo l m (ME5 m n l) (m.toNat + n.toNat + 1) = rndTo l m (ME5 m n l) (m.toNat + n.toNat) := by
  have prog : ∀ r, rndTo l m (ME5 m n l) (r + 1) = rndTo l m (ME5 m n l) r ∨ many (rndTo l m (ME5 m n l) r).1 m.toNat + many (rndTo l m (ME5 m n l) r).2 n.toNat + 1 ≤ many (rndTo l m (ME5 m n l) (r + 1)).1 m.toNat + many (rndTo l m (ME5 m n l) (r + 1)).2 n.toNat := fun r => by
    have s1 : sub (rndTo l m (ME5 m n l) r).1 (rndTo l m (ME5 m n l) (r + 1)).1 := fun v q => (h.fst_succ r v).2 (.inl q)
    have s2 : sub (rndTo l m (ME5 m n l) r).2 (rndTo l m (ME5 m n l) (r + 1)).2 := fun v q => (h.sec_succ r v).2 (.inl q)
    have m1 := many_sub s1 m.toNat
    have m2 := many_sub s2 n.toNat
    by_cases e1 : sub (rndTo l m (ME5 m n l) (r + 1)).1 (rndTo l m (ME5 m n l) r).1
    · by_cases e2 : sub (rndTo l m (ME5 m n l) (r + 1)).2 (rndTo l m (ME5 m n l) r).2
      · left
        exact Prod.ext (sub_antisymm (h.r16 _).1.1 (h.r16 _).1.1 e1 s1) (sub_antisymm (h.r16 _).2.1 (h.r16 _).2.1 e2 s2)
      · right
        obtain ⟨v, hv⟩ : ∃ v, ¬ (has (rndTo l m (ME5 m n l) (r + 1)).2 v = true → has (rndTo l m (ME5 m n l) r).2 v = true) := Classical.not_forall.1 e2
        obtain ⟨v1, v2⟩ := Classical.not_imp.1 hv
        have := many_lt s2 (v := v) (by simpa using v2) v1 ((h.rnd (r + 1)).sec v v1).1
        omega
    · right
      obtain ⟨v, hv⟩ : ∃ v, ¬ (has (rndTo l m (ME5 m n l) (r + 1)).1 v = true → has (rndTo l m (ME5 m n l) r).1 v = true) := Classical.not_forall.1 e1
      obtain ⟨v1, v2⟩ := Classical.not_imp.1 hv
      have := many_lt s1 (v := v) (by simpa using v2) v1 ((h.rnd (r + 1)).fst v v1).1
      omega
  have step : ∀ a b, rndTo l m (ME5 m n l) a = rndTo l m (ME5 m n l) b → rndTo l m (ME5 m n l) (a + 1) = rndTo l m (ME5 m n l) (b + 1) := fun a b e => by rw [rndTo, rndTo, e]
  have all : ∀ r, rndTo l m (ME5 m n l) (r + 1) = rndTo l m (ME5 m n l) r ∨ r + 1 ≤ many (rndTo l m (ME5 m n l) (r + 1)).1 m.toNat + many (rndTo l m (ME5 m n l) (r + 1)).2 n.toNat := fun r => by
    induction r with
    | zero => rcases prog 0 with q | q; exact .inl q; exact .inr (by omega)
    | succ r ih =>
      rcases ih with q | q
      · exact .inl (step _ _ q)
      · rcases prog (r + 1) with q2 | q2
        · exact .inl q2
        · exact .inr (by omega)
  rcases all (m.toNat + n.toNat) with q | q
  · exact q
  · have h1 := many_le (rndTo l m (ME5 m n l) (m.toNat + n.toNat + 1)).1 m.toNat
    have h2 := many_le (rndTo l m (ME5 m n l) (m.toNat + n.toNat + 1)).2 n.toNat
    omega
/-! ### What is answered -/
abbrev FK5 (m n : Int) (l : List Arc) : Int := (rndTo l m (ME5 m n l) (m.toNat + n.toNat)).1
abbrev SK5 (m n : Int) (l : List Arc) : Int := (rndTo l m (ME5 m n l) (m.toNat + n.toNat)).2
theorem MatchOk.arc (h : MatchOk m n l) {j : Nat} (hj : j < l.length) (hf : has (FK5 m n l) (l.getD j default).src.toNat = true) : has (SK5 m n l) (dK l j) = true := by
  have := (h.sec_succ (m.toNat + n.toNat) (dK l j)).2 (.inr ⟨j, hj, hf, rfl⟩)
  rwa [h.fix] at this
theorem MatchOk.has_x (_h : MatchOk m n l) {F : Int} {u : Nat} : has (iandn (fullM m) F) u = true ↔ u < m.toNat ∧ has F u = false := by
  rw [has_iandn, Bool.and_eq_true, has_full, decide_eq_true_eq, Bool.not_eq_true']
theorem MatchOk.back2 (h : MatchOk m n l) : iandn (fullM m) (iandn (fullM m) (FK5 m n l)) = FK5 m n l := by
  refine side_ext (iandn0 _ _) (h.r16 _).1.1 fun v => ?_
  rw [Bool.eq_iff_iff, h.has_x, Bool.eq_false_iff, ne_eq, h.has_x]
  constructor
  · rintro ⟨h1, h2⟩
    cases e : has (FK5 m n l) v
    · exact absurd ⟨h1, e⟩ h2
    · rfl
  · intro h1
    exact ⟨((h.rnd _).fst v h1).1, fun q => by rw [h1] at q; cases q.2⟩
/-- As many hold them all as there are pairs. -/
theorem MatchOk.sum (h : MatchOk m n l) : many (iandn (fullM m) (FK5 m n l)) 16 + many (SK5 m n l) 16 = cntM (ME5 m n l) ∧ many (iandn (fullM m) (FK5 m n l)) 16 + many (FK5 m n l) 16 = m.toNat := by
  have h1 := h.m12
  have h2 := h.n12
  have hR := h.rnd (m.toNat + n.toNat)
  have hl := (mates_ok l n.toNat m.toNat).1
  have e1 : many (iandn (fullM m) (FK5 m n l)) 16 = (List.range m.toNat).countP fun u => !has (FK5 m n l) u := by
    rw [many_16K (n := m.toNat) (fun v hv => by
      rw [Bool.eq_false_iff]; intro q; have := (h.has_x.1 q).1; omega) 16 (by omega), many_count]
    refine List.countP_congr fun u hu => ?_
    rw [h.has_x, Bool.not_eq_true']
    exact ⟨fun q => q.2, fun q => ⟨List.mem_range.1 hu, q⟩⟩
  have e2 : many (SK5 m n l) 16 = (List.range n.toNat).countP (has (SK5 m n l)) := by
    rw [many_16K (n := n.toNat) (fun v hv => by
      rw [Bool.eq_false_iff]; intro q; have := (hR.sec v q).1; omega) 16 (by omega), many_count]
  have e3 : many (FK5 m n l) 16 = (List.range m.toNat).countP (has (FK5 m n l)) := by
    rw [many_16K (n := m.toNat) (fun v hv => by
      rw [Bool.eq_false_iff]; intro q; have := (hR.fst v q).1; omega) 16 (by omega), many_count]
  refine ⟨?_, ?_⟩
  · rw [e1, e2, cnt_range, hl, count_split (p := fun y => decide (0 ≤ (ME5 m n l).getD y 0)) (q := has (SK5 m n l)) (fun y hy q => decide_eq_true (hR.sec y q).2.1)]
    refine congrArg (fun c => c + (List.range n.toNat).countP (has (SK5 m n l))) (bij_count (f := fun y => (lfM l (ME5 m n l) y).toNat) (fun y hy q => ?_) (fun y z hy hz qy qz e => ?_) (fun u hu q => ?_))
    · rw [Bool.and_eq_true, decide_eq_true_eq, Bool.not_eq_true'] at q
      have h0 := h.lf0 hy q.1
      refine ⟨by omega, ?_⟩
      rw [Bool.not_eq_true', Bool.eq_false_iff]
      intro c
      rcases (hR.fst _ c).2 with f | ⟨z, z1, z2, z3, z4⟩
      · exact f.2 y hy q.1 rfl
      · have hz0 := h.lf0 z1 z3
        by_cases e : y = z
        · subst e; rw [q.2] at z2; cases z2
        · exact h.mx.1.dist y z hy z1 trivial trivial e q.1 z3 (by omega)
    · rw [Bool.and_eq_true, decide_eq_true_eq, Bool.not_eq_true'] at qy qz
      have hy0 := h.lf0 hy qy.1
      have hz0 := h.lf0 hz qz.1
      refine Classical.byContradiction fun c => h.mx.1.dist y z hy hz trivial trivial c qy.1 qz.1 ?_
      have e' : (lfM l (ME5 m n l) y).toNat = (lfM l (ME5 m n l) z).toNat := e
      omega
    · rw [Bool.not_eq_true'] at q
      have nf : ¬ FreeK m n l u := fun f => by rw [hR.free u f] at q; cases q
      obtain ⟨y, y1, y2, y3⟩ : ∃ y, y < n.toNat ∧ onM (ME5 m n l) y ∧ (lfM l (ME5 m n l) y).toNat = u := Classical.byContradiction fun c => nf ⟨hu, fun y hy ho e => c ⟨y, hy, ho, e⟩⟩
      refine ⟨y, y1, ?_, y3⟩
      rw [Bool.and_eq_true, decide_eq_true_eq, Bool.not_eq_true', Bool.eq_false_iff]
      exact ⟨y2, fun c => by have := hR.back y y1 c y2; rw [y3, q] at this; cases this⟩
  · rw [e1, e3]
    have := count_split (l := List.range m.toNat) (p := fun _ => true) (q := has (FK5 m n l)) (fun _ _ _ => rfl)
    rw [List.countP_true, List.length_range] at this
    simp only [Bool.true_and] at this
    exact this.symm
theorem MatchOk.cover (h : MatchOk m n l) {j : Nat} (hj : j < l.length) (h1 : bit (iandn (fullM m) (FK5 m n l)) (l.getD j default).src = 0) (h2 : bit (SK5 m n l) (l.getD j default).dst = 0) : False := by
  rw [bit_no (iandn0 _ _)] at h1
  rw [bit_no (h.r16 _).2.1] at h2
  have hs := h.src j hj
  have hf : has (FK5 m n l) (l.getD j default).src.toNat = true := by
    cases e : has (FK5 m n l) (l.getD j default).src.toNat
    · have := h.has_x.2 ⟨by omega, e⟩
      rw [h1] at this; cases this
    · rfl
  have := h.arc hj hf
  unfold dK at this
  rw [h2] at this; cases this
theorem MatchOk.near (h : MatchOk m n l) (hc : (cntM (ME5 m n l) : Int) ≠ m) : many (secTo l (FK5 m n l) 0 l.length) 16 < many (FK5 m n l) 16 := by
  obtain ⟨s1, s2⟩ := h.sum
  have h0 := h.m0
  have hle : cntM (ME5 m n l) ≤ m.toNat := by
    have := many_sub (a := secTo l (FK5 m n l) 0 0) (b := SK5 m n l) (fun v q => by rw [secTo, has_zero] at q; cases q) 16
    by_cases e : many (SK5 m n l) 16 ≤ many (FK5 m n l) 16
    · omega
    · exfalso
      -- each second side that is held has a first side of its own
      have hR := h.rnd (m.toNat + n.toNat)
      have h2 := h.n12
      have h1 := h.m12
      have hS : many (SK5 m n l) 16 = (List.range n.toNat).countP (has (SK5 m n l)) := by
        rw [many_16K (n := n.toNat) (fun v hv => by rw [Bool.eq_false_iff]; intro q; have := (hR.sec v q).1; omega) 16 (by omega), many_count]
      have hF : many (FK5 m n l) 16 = (List.range m.toNat).countP (has (FK5 m n l)) := by
        rw [many_16K (n := m.toNat) (fun v hv => by rw [Bool.eq_false_iff]; intro q; have := (hR.fst v q).1; omega) 16 (by omega), many_count]
      have hb := bij_count (m := m.toNat) (n := n.toNat) (p := fun u => (List.range n.toNat).any fun y => has (SK5 m n l) y && decide ((lfM l (ME5 m n l) y).toNat = u)) (q := has (SK5 m n l)) (f := fun y => (lfM l (ME5 m n l) y).toNat) (fun y hy q => by
          have h3 := h.lf0 hy (hR.sec y q).2.1
          exact ⟨by omega, List.any_eq_true.2 ⟨y, List.mem_range.2 hy, by rw [Bool.and_eq_true, decide_eq_true_eq]; exact ⟨q, rfl⟩⟩⟩) (fun y z hy hz qy qz e => by
          have hy0 := h.lf0 hy (hR.sec y qy).2.1
          have hz0 := h.lf0 hz (hR.sec z qz).2.1
          refine Classical.byContradiction fun c => h.mx.1.dist y z hy hz trivial trivial c (hR.sec y qy).2.1 (hR.sec z qz).2.1 ?_
          have e' : (lfM l (ME5 m n l) y).toNat = (lfM l (ME5 m n l) z).toNat := e
          omega) (fun u hu q => by
          obtain ⟨y, y1, y2⟩ := List.any_eq_true.1 q
          rw [Bool.and_eq_true, decide_eq_true_eq] at y2
          exact ⟨y, List.mem_range.1 y1, y2.1, y2.2⟩)
      have hm : (List.range m.toNat).countP (fun u => (List.range n.toNat).any fun y => has (SK5 m n l) y && decide ((lfM l (ME5 m n l) y).toNat = u)) ≤ (List.range m.toNat).countP (has (FK5 m n l)) := List.countP_mono_left fun u hu q => by
        obtain ⟨y, y1, y2⟩ := List.any_eq_true.1 q
        rw [Bool.and_eq_true, decide_eq_true_eq] at y2
        rw [← y2.2]
        exact hR.back y (List.mem_range.1 y1) y2.1 (hR.sec y y2.1).2.1
      omega
  have hsub : sub (secTo l (FK5 m n l) 0 l.length) (SK5 m n l) := fun v q => by
    rcases (has_sec (h.r16 _).1.1 l.length).1 q with q | ⟨j, j1, j2, j3⟩
    · rw [has_zero] at q; cases q
    · rw [← j3]; exact h.arc j1 j2
  have := many_sub hsub 16
  omega
/-! ### The numbers of the pairs, in their order -/
def mskK (g : Arc → Int) (l : List Arc) (p : List Int) : Nat → Int
  | 0 => 0
  | i + 1 => ior (mskK g l p i) (1 * 2 ^ (g (l.getD (p.getD i 0).toNat default)).toNat)
theorem has_msk {g : Arc → Int} {l : List Arc} {p : List Int} {v : Nat} : ∀ i, has (mskK g l p i) v = true ↔ ∃ j, j < i ∧ (g (l.getD (p.getD j 0).toNat default)).toNat = v
  | 0 => by
    rw [mskK, has_zero]
    exact ⟨(fun h => by cases h), fun ⟨j, h, _⟩ => by omega⟩
  | i + 1 => by
    rw [mskK, has_ior, Bool.or_eq_true, has_msk i, has_pow, decide_eq_true_eq]
    constructor
    · rintro (⟨j, j1, j2⟩ | h)
      · exact ⟨j, by omega, j2⟩
      · exact ⟨i, by omega, h⟩
    · rintro ⟨j, j1, j2⟩
      rcases Nat.lt_succ_iff_lt_or_eq.1 j1 with q | rfl
      · exact .inl ⟨j, q, j2⟩
      · exact .inr j2
theorem msk_16 {g : Arc → Int} {l : List Arc} {p : List Int} (hg : ∀ i, i < p.length → (g (l.getD (p.getD i 0).toNat default)).toNat ≤ 12) : ∀ i, i ≤ p.length → B16 (mskK g l p i)
  | 0, _ => by show B16 0; exact ⟨by omega, by omega⟩
  | i + 1, h => (msk_16 hg i (by omega)).ior (pow_16 (hg i (by omega)))
theorem pick_filter : ∀ M : List Int, pickM M = M.filter fun x => decide (0 ≤ x)
  | [] => rfl
  | x :: r => by
    rw [pickM, List.filter_cons, pick_filter r]
    by_cases h : 0 ≤ x <;> simp [h]
structure ListK (m n : Int) (l : List Arc) (p : List Int) : Prop where
  at_ : ∀ i, i < p.length → 0 ≤ p.getD i 0 ∧ p.getD i 0 < l.length
  up : ∀ i, 0 < i → i < p.length → p.getD (i - 1) 0 < p.getD i 0
  src : ∀ i, i < p.length → has (mskK Arc.src l p i) (l.getD (p.getD i 0).toNat default).src.toNat = false
  dst : ∀ i, i < p.length → has (mskK Arc.dst l p i) (l.getD (p.getD i 0).toNat default).dst.toNat = false
  len : p.length = cntM (ME5 m n l)
theorem MatchOk.list (h : MatchOk m n l) : ListK m n l (sorted (pickM (ME5 m n l))) := by
  obtain ⟨g1, g2⟩ := h.mx
  have hl := g1.mt.len
  have hmem : ∀ x, x ∈ sorted (pickM (ME5 m n l)) → ∃ y, y < n.toNat ∧ onM (ME5 m n l) y ∧ (ME5 m n l).getD y 0 = x ∧ 0 ≤ x ∧ x < l.length ∧ (l.getD x.toNat default).dst = (y : Int) := fun x hx => by
    obtain ⟨h1, h2⟩ := pick_mem.1 ((sorted_perm _).mem_iff.1 hx)
    obtain ⟨y, hy, rfl⟩ := List.mem_iff_getElem.1 h1
    have e := getD_lt (ME5 m n l) 0 y hy
    rw [← e] at h2 ⊢
    have hyn : y < n.toNat := by rw [← hl]; exact hy
    rcases g1.mt.ok y hyn with q | ⟨q1, q2, q3⟩
    · omega
    · exact ⟨y, hyn, h2, rfl, q1, q2, q3⟩
  have hnd : (pickM (ME5 m n l)).Nodup := by
    rw [pick_filter]
    refine List.pairwise_filter.2 (List.pairwise_iff_getElem.2 fun i j hi hj hij pi pj e => ?_)
    have pi := of_decide_eq_true pi
    have pj := of_decide_eq_true pj
    have ei := getD_lt (ME5 m n l) 0 i hi
    have ej := getD_lt (ME5 m n l) 0 j hj
    rcases g1.mt.ok i (by rw [← hl]; exact hi) with q | ⟨q1, q2, q3⟩
    · omega
    · rcases g1.mt.ok j (by rw [← hl]; exact hj) with r | ⟨r1, r2, r3⟩
      · omega
      · rw [ei, e, ← ej, r3] at q3; omega
  have hlt : (sorted (pickM (ME5 m n l))).Pairwise (· < ·) := by
    have h1 := sorted_le (pickM (ME5 m n l))
    have h2 : (sorted (pickM (ME5 m n l))).Nodup := hnd.perm (sorted_perm _).symm
    have := h1.and h2
    exact this.imp fun q => by omega
  have hpw := List.pairwise_iff_getElem.1 hlt
  have hne : ∀ i j, i < j → j < (sorted (pickM (ME5 m n l))).length → (sorted (pickM (ME5 m n l))).getD i 0 < (sorted (pickM (ME5 m n l))).getD j 0 := fun i j hij hj => by
    rw [getD_lt _ _ i (by omega), getD_lt _ _ j hj]; exact hpw i j (by omega) hj hij
  refine ⟨fun i hi => ?_, fun i h0 hi => hne _ _ (by omega) hi, fun i hi => ?_, fun i hi => ?_, by rw [sorted_len, pick_len]⟩
  · obtain ⟨_, _, _, _, q1, q2, _⟩ := hmem _ (getD_mem (d := 0) hi)
    exact ⟨q1, q2⟩
  · rw [Bool.eq_false_iff]; intro c
    obtain ⟨j, j1, j2⟩ := (has_msk i).1 c
    have := hne j i j1 hi
    obtain ⟨y, y1, y2, y3, y4, y5, y6⟩ := hmem _ (getD_mem (d := 0) hi)
    obtain ⟨z, z1, z2, z3, z4, z5, z6⟩ := hmem _ (getD_mem (d := 0) (show j < _ by omega))
    have hyz : y ≠ z := fun e => by subst e; omega
    have hd := g1.dist y z y1 z1 trivial trivial hyz y2 z2
    have a1 := h.lf0 y1 y2
    have a2 := h.lf0 z1 z2
    unfold lfM at hd a1 a2
    rw [y3] at hd a1
    rw [z3] at hd a2
    omega
  · rw [Bool.eq_false_iff]; intro c
    obtain ⟨j, j1, j2⟩ := (has_msk i).1 c
    have := hne j i j1 hi
    obtain ⟨y, y1, y2, y3, y4, y5, y6⟩ := hmem _ (getD_mem (d := 0) hi)
    obtain ⟨z, z1, z2, z3, z4, z5, z6⟩ := hmem _ (getD_mem (d := 0) (show j < _ by omega))
    have hyz : y = z := by rw [y6, z6] at j2; omega
    subst hyz; omega
theorem lt_full {X : Int} {m : Nat} (h0 : 0 ≤ X) (h : ∀ v, has X v = true → v < m) : X < 1 * 2 ^ m := by
  have := lt_has (z := X) (n := m) h0 (fun v hv => by rw [Bool.eq_false_iff]; intro q; have := h v q; omega)
  rw [pow_nat]; omega
theorem MatchOk.small (h : MatchOk m n l) : B16 (iandn (fullM m) (FK5 m n l)) ∧ iandn (fullM m) (FK5 m n l) < 1 * 2 ^ m.toNat ∧ B16 (SK5 m n l) ∧ SK5 m n l < 1 * 2 ^ n.toNat ∧ B16 (FK5 m n l) ∧ FK5 m n l < 1 * 2 ^ m.toNat := by
  obtain ⟨r1, r2⟩ := h.r16 (m.toNat + n.toNat)
  have hR := h.rnd (m.toNat + n.toNat)
  exact ⟨(full_16 h.m12).iandn, lt_full (iandn0 _ _) fun v q => (h.has_x.1 q).1, r2, lt_full r2.1 fun v q => (hR.sec v q).1, r1, lt_full r1.1 fun v q => (hR.fst v q).1⟩
end
end Go.Ab
