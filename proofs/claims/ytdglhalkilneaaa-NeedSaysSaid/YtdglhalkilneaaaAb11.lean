/- The abstract machine, part 11: the rules of a walk; a state may be weakened. -/
import Derived.Test.YtdglhalkilneaaaAb10
import Derived.Deep.LoopGhost
namespace Go.Ab

abbrev Post := Exit → St → Prop

/-- What holds of s holds of s': the memory may be read in another way. -/
def AWk (s s' : St) : Prop := ∀ M a, Rel M s a → ∃ M', Rel M' s' a ∧ M'.w = M.w ∧ Ext big M M'
def Qc (K : Post) (M0 : Mem) : Exit → Act → World → Prop := fun e a w => ∃ s M', K e s ∧ Rel M' s a ∧ M'.w = w ∧ Ext big M0 M'
structure AWp (P : Program) (c : Code) (K : Post) (s : St) : Prop where
  run : ∀ M0 M a, Ext big M0 M → Rel M s a → c.wp P (Qc K M0) a M.w
/-- The operations of a region from the k-th on. -/
structure AOps (P : Program) (l : List Oper) (k : Nat) (K : Post) (s : St) : Prop where
  run : ∀ M0 M a, Ext big M0 M → Rel M s a → wpList P l.toArray (Qc K M0) (l.drop k) a M.w
/-- A round has come to its end. -/
structure LoopEnd (I : Nat → St → Prop) (n : Nat) (s : St) : Prop where
  run : ∃ m, m < n ∧ I m s
theorem loop_end {I : Nat → St → Prop} {n : Nat} {s : St} (m : Nat) (h : m < n) (hI : I m s) : LoopEnd I n s := ⟨m, h, hI⟩
/-- Two ways have come together. -/
structure JEnd (J : St → Prop) (s : St) : Prop where
  run : J s

def kSeq (N : St → Prop) (K : Post) : Post
  | .normal, s => N s
  | .exit i, s => K (.exit i) s
  | .goto l, s => K (.goto l) s
  | .ret, s => K .ret s
  | .panic c, s => K (.panic c) s
  | .outgrown, s => K .outgrown s
def kBlk (id : Nat) (K : Post) : Post
  | .normal, s => K .normal s
  | .exit i, s => cond (Nat.beq i id) (K .normal s) (K (.exit i) s)
  | .goto l, s => K (.goto l) s
  | .ret, s => K .ret s
  | .panic c, s => K (.panic c) s
  | .outgrown, s => K .outgrown s

section
variable {P : Program} {T : Nat → Option TI} {K : Post} {s s' : St}

theorem AWk.refl (s : St) : AWk s s := fun M _ h => ⟨M, h, rfl, Ext.refl _ _⟩
theorem AWk.trans {s s' s'' : St} (h : AWk s s') (k : AWk s' s'') : AWk s s'' := fun M a hr => by
  obtain ⟨M1, h1, w1, e1⟩ := h M a hr
  obtain ⟨M2, h2, w2, e2⟩ := k M1 a h1
  exact ⟨M2, h2, w2.trans w1, e1.trans e2⟩

theorem awp_weak {c : Code} (h : AWk s s') (k : AWp P c K s') : AWp P c K s := ⟨fun M0 M a he hr => by
  obtain ⟨M', h1, w1, e1⟩ := h M a hr
  rw [← w1]
  exact k.run M0 M' a (he.trans e1) h1⟩
theorem aops_weak {l : List Oper} {k : Nat} (h : AWk s s') (hk : AOps P l k K s') : AOps P l k K s := ⟨fun M0 M a he hr => by
  obtain ⟨M', h1, w1, e1⟩ := h M a hr
  rw [← w1]
  exact hk.run M0 M' a (he.trans e1) h1⟩
theorem qc_end {e : Exit} {M0 M : Mem} {a : Act} (he : Ext big M0 M) (hr : Rel M s a) (h : K e s) : Qc K M0 e a M.w := ⟨s, M, h, hr, rfl, he⟩

theorem awp_mono {c : Code} {K' : Post} (h : AWp P c K s) (hk : ∀ e s, K e s → K' e s) : AWp P c K' s := ⟨fun M0 M a he hr =>
  wp_mono (h.run M0 M a he hr) fun e _a _w ⟨s, M', h1, h2⟩ => ⟨s, M', hk e s h1, h2⟩⟩

theorem awp_skip (h : K .normal s) : AWp P .skip K s := ⟨fun _ _ _ he hr => wp_skip (qc_end he hr h)⟩
theorem awp_label {l : Nat} (h : K .normal s) : AWp P (.label l) K s := ⟨fun _ _ _ he hr => wp_label (qc_end he hr h)⟩
theorem awp_exit {i : Nat} (h : K (.exit i) s) : AWp P (.exit i) K s := ⟨fun _ _ _ he hr => wp_exit (qc_end he hr h)⟩
theorem awp_ret (h : K .ret s) : AWp P .ret K s := ⟨fun _ _ _ he hr => wp_ret (qc_end he hr h)⟩

theorem awp_seq {x y : Code} (h : AWp P x (kSeq (AWp P y K) K) s) : AWp P (.seq x y) K s := ⟨fun M0 M a he hr =>
  wp_seq (wp_mono (h.run M0 M a he hr) fun e a w hq => by
    obtain ⟨s1, M1, h1, h2, h3, h4⟩ := hq
    cases e with
    | normal => subst h3; exact h1.run M0 M1 a h4 h2
    | exit i => exact ⟨s1, M1, h1, h2, h3, h4⟩
    | goto i => exact ⟨s1, M1, h1, h2, h3, h4⟩
    | ret => exact ⟨s1, M1, h1, h2, h3, h4⟩
    | panic i => exact ⟨s1, M1, h1, h2, h3, h4⟩
    | outgrown => exact ⟨s1, M1, h1, h2, h3, h4⟩)⟩

theorem awp_block {id : Nat} {c : Code} (h : AWp P c (kBlk id K) s) : AWp P (.block id c) K s := ⟨fun M0 M a he hr =>
  wp_block (wp_mono (h.run M0 M a he hr) fun e a w hq => by
    obtain ⟨s1, M1, h1, h2, h3, h4⟩ := hq
    cases e with
    | normal => exact ⟨s1, M1, h1, h2, h3, h4⟩
    | exit i =>
      simp only [kBlk] at h1
      by_cases hi : i = id
      · subst hi
        rw [beq_self] at h1
        simp only [Exit.inBlock, if_true]
        exact ⟨s1, M1, h1, h2, h3, h4⟩
      · rw [beq_ne hi] at h1
        simp only [Exit.inBlock, if_neg hi]
        exact ⟨s1, M1, h1, h2, h3, h4⟩
    | goto i => exact ⟨s1, M1, h1, h2, h3, h4⟩
    | ret => exact ⟨s1, M1, h1, h2, h3, h4⟩
    | panic i => exact ⟨s1, M1, h1, h2, h3, h4⟩
    | outgrown => exact ⟨s1, M1, h1, h2, h3, h4⟩)⟩

theorem awp_cond {c : Operand} {x y : Code} {b : Bool} (hc : s.raw c = some (.one (.bool b))) (ht : b = true → AWp P x K s) (hf : b = false → AWp P y K s) : AWp P (.cond c x y) K s := ⟨fun M0 M a he hr =>
  wp_cond_split (VR_bool (raw_sound hr hc)) (fun h => (ht h).run M0 M a he hr) (fun h => (hf h).run M0 M a he hr)⟩

/-- A loop: the invariant bears a number, which every round lowers. -/
theorem awp_loop {c : Code} (I : Nat → St → Prop) (n : Nat) (h0 : I n s) (round : ∀ n s, I n s → AWp P c (kSeq (LoopEnd I n) K) s) : AWp P (.loop c) K s := ⟨fun M0 M a he hr => by
  refine wp_loop_ghost (fun n a w => ∃ s M', I n s ∧ Rel M' s a ∧ M'.w = w ∧ Ext big M0 M') n ⟨s, M, h0, hr, rfl, he⟩ fun n a w ⟨s1, M1, h1, h2, h3, h4⟩ => ?_
  subst h3
  refine wp_mono ((round n s1 h1).run M0 M1 a h4 h2) fun e a w hq => ?_
  obtain ⟨s2, M2, k1, k2, k3, k4⟩ := hq
  cases e with
  | normal =>
    obtain ⟨m, hm, hI⟩ := k1.run
    exact ⟨m, hm, s2, M2, hI, k2, k3, k4⟩
  | exit i => exact ⟨s2, M2, k1, k2, k3, k4⟩
  | goto i => exact ⟨s2, M2, k1, k2, k3, k4⟩
  | ret => exact ⟨s2, M2, k1, k2, k3, k4⟩
  | panic i => exact ⟨s2, M2, k1, k2, k3, k4⟩
  | outgrown => exact ⟨s2, M2, k1, k2, k3, k4⟩⟩

/-! ### Regions in the text's order -/
theorem awp_region {id : Nat} {l : List Oper} (h : AOps P l 0 K s) : AWp P (.region id l.toArray false) K s := ⟨fun M0 M a he hr =>
  wp_region_lit (h.run M0 M a he hr)⟩
theorem aops_end {l : List Oper} {k : Nat} (hk : l.drop k = []) (h : K .normal s) : AOps P l k K s := ⟨fun M0 M a he hr => by
  rw [hk]
  exact wpList_nil (qc_end he hr h)⟩
theorem aops_end_seq {l : List Oper} {k : Nat} {y : Code} {K' : Post} (hk : l.drop k = []) (h : AWp P y K' s) : AOps P l k (kSeq (AWp P y K') K) s := aops_end hk h

theorem aops_step {l : List Oper} {k : Nat} {o : Oper} {r : List Oper} {cs : List Prop} (hT : ∀ t i, T t = some i → TF P t i) (hl : l.drop k = o :: r) (h : stepOp T l.toArray s o = some (cs, s')) (hc : AllP cs) (hk : AOps P l (k + 1) K s') : AOps P l k K s := ⟨fun M0 M a he hr => by
  have hd : l.drop (k + 1) = r := by
    have h1 : (l.drop k).drop 1 = r := by rw [hl]; rfl
    rwa [List.drop_drop] at h1
  rw [hl]
  unfold wpList
  rcases stepOp_sound (P := P) hT h hc hr with ⟨hw, hr'⟩ | ⟨hw, n, M', u, hrun, hext, hr', hn⟩
  · rw [if_neg (by rw [hw]; decide)]
    rw [← hd]
    exact hk.run M0 M _ he hr'
  · rw [if_pos hw]
    refine .inl ?_
    have hgo := hk.run M0 M' _ (he.trans hext) hr'
    rw [hd] at hgo
    unfold Oper.wp
    rw [hrun]
    rcases hn with rfl | ⟨rfl, rfl⟩
    · exact hgo
    · exact hgo⟩

theorem aops_ops {l : List Oper} (hT : ∀ t i, T t = some i → TF P t i) (seg : List Oper) : ∀ (k : Nat) (s : St) (cs : List Prop), l.drop k = seg ++ l.drop (k + seg.length) → runOps T l.toArray seg s = some (cs, s') → AllP cs → AOps P l (k + seg.length) K s' → AOps P l k K s := by
  induction seg with
  | nil =>
    intro k s cs _ h _ hk
    simp only [runOps, Option.some.injEq, Prod.mk.injEq] at h
    obtain ⟨rfl, rfl⟩ := h
    exact hk
  | cons o seg ih =>
    intro k s cs hl h hc hk
    unfold runOps at h
    split at h
    · rename_i cs1 s1 h1
      split at h
      · rename_i cs2 s2 h2
        simp only [Option.some.injEq, Prod.mk.injEq] at h
        obtain ⟨rfl, rfl⟩ := h
        obtain ⟨c1, c2⟩ := AllP_append.1 hc
        have e1 : k + (o :: seg).length = k + 1 + seg.length := by simp only [List.length_cons]; omega
        rw [e1] at hl hk
        refine aops_step hT hl h1 c1 (ih (k + 1) s1 cs2 ?_ h2 c2 hk)
        have h3 : (l.drop k).drop 1 = seg ++ l.drop (k + 1 + seg.length) := by rw [hl]; rfl
        rwa [List.drop_drop] at h3
      · cases h
    · cases h

/-! ### Less is kept -/
def keepN {α : Type} (ks : List Nat) : List (Nat × α) → List (Nat × α)
  | [] => []
  | (k, v) :: r => cond (hasN k ks) ((k, v) :: keepN ks r) (keepN ks r)
/-- Numbers that are left out: such from 100 on that do not stand in the list. -/
def outN (hs : List Nat) (x : Nat) : Bool := big x && !(hasN x hs)
def keepH (hs : List Nat) : Heap → Heap
  | [] => []
  | (k, v) :: r => cond (outN hs k) (keepH hs r) ((k, v) :: keepH hs r)
def cutS (ks hs : List Nat) (s : St) : St := ⟨s.n, mapV (clrA (outN hs)) (keepN ks s.tm), mapV (clrO (outN hs)) (keepH hs s.hp)⟩

theorem look_keepN {α : Type} (ks : List Nat) (x : Nat) : ∀ l : List (Nat × α), look x (keepN ks l) = cond (hasN x ks) (look x l) none
  | [] => by cases hasN x ks <;> rfl
  | (k, v) :: r => by
    unfold keepN
    have ih := look_keepN ks x r
    by_cases hkx : k = x
    · subst hkx
      cases h : hasN k ks
      · rw [h] at ih; simpa using ih
      · simp [look]
    · cases h : hasN k ks
      · simp only [cond_false, look, beq_ne hkx]; exact ih
      · simp only [cond_true, look, beq_ne hkx, cond_false]; exact ih
theorem look_keepH (hs : List Nat) (x : Nat) : ∀ l : Heap, look x (keepH hs l) = cond (outN hs x) none (look x l)
  | [] => by cases outN hs x <;> rfl
  | (k, v) :: r => by
    unfold keepH
    have ih := look_keepH hs x r
    by_cases hkx : k = x
    · subst hkx
      cases h : outN hs k
      · simp [look]
      · rw [h] at ih; simpa using ih
    · cases h : outN hs k
      · simp only [cond_false, look, beq_ne hkx]; exact ih
      · simp only [cond_true, look, beq_ne hkx, cond_false]; exact ih

theorem awk_cut (ks hs : List Nat) (s : St) : AWk s (cutS ks hs s) := fun M a hr => by
  have hlk : ∀ x o, look x (mapV (clrO (outN hs)) (keepH hs s.hp)) = some o → outN hs x = false ∧ ∃ o1, look x M.H = some o1 ∧ o = clrO (outN hs) o1 := by
    intro x o h
    rw [look_mapV, look_keepH, Option.map_eq_some_iff] at h
    obtain ⟨o1, h1, rfl⟩ := h
    cases hx : outN hs x
    · rw [hx] at h1
      exact ⟨rfl, o1, by rw [hr.hp]; exact h1, rfl⟩
    · rw [hx] at h1; cases h1
  have hlive : ∀ b, Mem.live ⟨M.μ, mapV (clrO (outN hs)) (keepH hs s.hp), M.w, M.free⟩ b → M.live b := by
    rintro b ⟨x, o, p, h1, h2⟩
    obtain ⟨_, o1, h3, _⟩ := hlk x o h1
    exact ⟨x, o1, p, h3, h2⟩
  have hext : Ext (outN hs) M ⟨M.μ, mapV (clrO (outN hs)) (keepH hs s.hp), M.w, M.free⟩ := by
    refine ⟨⟨rfl, rfl, rfl, Nat.le_refl _, fun b _ hl => ⟨rfl, fun h => hl (hlive b h)⟩, fun _ h => h, fun _ h => .inl h⟩, fun x o hx hl => ?_⟩
    refine ⟨clrO (outN hs) o, ?_, clrO_sz _ _, by rw [clrO_len]; exact Nat.le_refl _, rfl, fun b p cur e _ hc => ⟨cur, hc, rfl⟩⟩
    show look x (mapV (clrO (outN hs)) (keepH hs s.hp)) = _
    rw [look_mapV, look_keepH, hx, ← hr.hp, cond_false, hl]; rfl
  refine ⟨⟨M.μ, mapV (clrO (outN hs)) (keepH hs s.hp), M.w, M.free⟩, ⟨rfl, ?_, hr.defers, hr.size, fun d v hd => ?_⟩, rfl, hext.mono (fun x hx => (by
    unfold outN at hx
    cases hb : big x
    · rw [hb] at hx; cases hx
    · rfl))⟩
  · refine ⟨fun b hb => ⟨(hr.ok.fr b hb).1, fun h => (hr.ok.fr b hb).2 (hlive b h)⟩, fun x y o o' b p q hx hy hmx hmy => ?_, fun x o hx hm => ?_, fun x o b p hx hm => ?_⟩
    · obtain ⟨_, o1, h1, _⟩ := hlk x o hx
      obtain ⟨_, o2, h2, _⟩ := hlk y o' hy
      exact hr.ok.inj x y o1 o2 b p q h1 h2 hmx hmy
    · obtain ⟨_, o1, h1, rfl⟩ := hlk x o hx
      rw [clrO_len]; exact hr.ok.none_ x o1 h1 hm
    · obtain ⟨_, o1, h1, rfl⟩ := hlk x o hx
      obtain ⟨cur, e, g1, g2, g3⟩ := hr.ok.obj x o1 b p h1 hm
      refine ⟨cur, e, g1, by rw [clrO_len, clrO_sz]; exact g2, fun i hi j hj => ?_⟩
      rw [clrO_len] at hi
      rw [clrO_sz] at hj ⊢
      obtain ⟨u, k1, k2, k3⟩ := g3 i hi j hj
      refine ⟨u, k1, k2, ?_⟩
      rw [clrO_cell]
      exact VR_ext hext k3
  · have hd' : look d (mapV (clrA (outN hs)) (keepN ks s.tm)) = some v := hd
    rw [look_mapV, look_keepN, Option.map_eq_some_iff] at hd'
    obtain ⟨v0, h0, rfl⟩ := hd'
    cases hk : hasN d ks
    · rw [hk] at h0; cases h0
    · rw [hk] at h0
      obtain ⟨u, hu, hv⟩ := hr.tm d v0 h0
      exact ⟨u, hu, AVR_ext hext hv⟩

/-- Some operations at once, and what is kept behind them. -/
def runCut (T : Nat → Option TI) (l : List Oper) (k m : Nat) (ks hs : List Nat) (s : St) : Option (List Prop × St) :=
  match runOps T l.toArray ((l.drop k).take m) s with
  | some (cs, s') => some (cs, cutS ks hs s')
  | none => none

theorem aops_run {l : List Oper} {k : Nat} (m : Nat) (ks hs : List Nat) (cs : List Prop) (s' : St) (hT : ∀ t i, T t = some i → TF P t i) (hle : Nat.ble (k + m) l.length = true) (h : runCut T l k m ks hs s = some (cs, s')) (hc : AllP cs) (hk : AOps P l (k + m) K s') : AOps P l k K s := by
  unfold runCut at h
  split at h
  · rename_i cs1 s1 h1
    simp only [Option.some.injEq, Prod.mk.injEq] at h
    obtain ⟨rfl, rfl⟩ := h
    have hle := Nat.le_of_ble_eq_true hle
    have hlen : ((l.drop k).take m).length = m := by rw [List.length_take, List.length_drop]; omega
    refine aops_ops hT ((l.drop k).take m) k s cs1 ?_ h1 hc ?_
    · rw [hlen, ← List.drop_drop, List.take_append_drop]
    · rw [hlen]
      exact aops_weak (awk_cut ks hs s1) (by assumption)
  · cases h

/-- A whole region at once. -/
theorem awp_run {id : Nat} {l : List Oper} (ks hs : List Nat) (cs : List Prop) (s' : St) (hT : ∀ t i, T t = some i → TF P t i) (h : runCut T l 0 l.length ks hs s = some (cs, s')) (hc : AllP cs) (hk : K .normal s') : AWp P (.region id l.toArray false) K s :=
  awp_region (aops_run l.length ks hs cs s' hT (by rw [Nat.zero_add]; exact Nat.ble_self_eq_true _) h hc (aops_end (by simp) hk))
theorem awp_run_seq {id : Nat} {l : List Oper} {y : Code} (ks hs : List Nat) (cs : List Prop) (s' : St) (hT : ∀ t i, T t = some i → TF P t i) (h : runCut T l 0 l.length ks hs s = some (cs, s')) (hc : AllP cs) (hk : AWp P y K s') : AWp P (.seq (.region id l.toArray false) y) K s :=
  awp_seq (awp_run ks hs cs s' hT h hc hk)

theorem aops_cut {l : List Oper} {k : Nat} (ks hs : List Nat) (s' : St) (h : cutS ks hs s = s') (hk : AOps P l k K s') : AOps P l k K s := by
  subst h; exact aops_weak (awk_cut ks hs s) hk
theorem awp_cut {c : Code} (ks hs : List Nat) (s' : St) (h : cutS ks hs s = s') (hk : AWp P c K s') : AWp P c K s := by
  subst h; exact awp_weak (awk_cut ks hs s) hk

/-- Two branches come together. -/
theorem awp_join {x y : Code} (J : St → Prop) (h : AWp P x (kSeq (JEnd J) K) s) (hk : ∀ s', J s' → AWp P y K s') : AWp P (.seq x y) K s :=
  awp_seq (awp_mono h fun e s h => by
    cases e with
    | normal => exact hk s h.run
    | exit i => exact h
    | goto i => exact h
    | ret => exact h
    | panic i => exact h
    | outgrown => exact h)
theorem awp_join_tail {x y : Code} {K' : Post} (J : St → Prop) (h : AWp P x (kSeq (JEnd J) K) s) (hk : ∀ s', J s' → AWp P y K' s') : AWp P x (kSeq (AWp P y K') K) s :=
  awp_mono h fun e s h => by
    cases e with
    | normal => exact hk s h.run
    | exit i => exact h
    | goto i => exact h
    | ret => exact h
    | panic i => exact h
    | outgrown => exact h
theorem jend {J : St → Prop} (h : J s) : JEnd J s := ⟨h⟩
theorem awp_cond_join {c : Operand} {x y z : Code} {b : Bool} (sj : Bool → St) (hc : s.raw c = some (.one (.bool b))) (ht : b = true → AWp P x (kSeq (JEnd (· = sj true)) K) s) (hf : b = false → AWp P y (kSeq (JEnd (· = sj false)) K) s) (hk : AWp P z K (sj b)) : AWp P (.seq (.cond c x y) z) K s :=
  awp_join (· = sj b) (awp_cond hc (fun h => by subst h; exact ht rfl) (fun h => by subst h; exact hf rfl)) (fun s' h => by rw [h]; exact hk)
theorem awp_cond_join_tail {c : Operand} {x y z : Code} {K' : Post} {b : Bool} (sj : Bool → St) (hc : s.raw c = some (.one (.bool b))) (ht : b = true → AWp P x (kSeq (JEnd (· = sj true)) K) s) (hf : b = false → AWp P y (kSeq (JEnd (· = sj false)) K) s) (hk : AWp P z K' (sj b)) : AWp P (.cond c x y) (kSeq (AWp P z K') K) s :=
  awp_join_tail (· = sj b) (awp_cond hc (fun h => by subst h; exact ht rfl) (fun h => by subst h; exact hf rfl)) (fun s' h => by rw [h]; exact hk)
end
end Go.Ab
