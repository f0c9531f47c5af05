/- Of pairs of two sides: the search for a way to one pair more: the plain laws. -/
import Derived.Test.YtakfbagokponeaaPlA
import Derived.Test.YtakfbagokponeaaPlTree
namespace Go.Ab
/-! ### Pairs, by the second side: the number of an arc, or -1 -/
def lfM (l : List Arc) (M : List Int) (y : Nat) : Int := (l.getD (M.getD y 0).toNat default).src
def onM (M : List Int) (y : Nat) : Prop := 0 ≤ M.getD y 0
def cntM (M : List Int) : Nat := M.countP fun x => decide (0 ≤ x)
structure MtK (l : List Arc) (n : Nat) (M : List Int) : Prop where
  len : M.length = n
  ok : ∀ y, y < n → M.getD y 0 = -1 ∨ (0 ≤ M.getD y 0 ∧ M.getD y 0 < l.length ∧ (l.getD (M.getD y 0).toNat default).dst = (y : Int))
def snK (S : List Bool) (y : Nat) : Prop := S.getD y false = true
def DistK (l : List Arc) (n : Nat) (M : List Int) (P : Nat → Prop) : Prop := ∀ y z, y < n → z < n → P y → P z → y ≠ z → onM M y → onM M z → lfM l M y ≠ lfM l M z
/-- How many are not seen. -/
def unsK (S : List Bool) : Nat := S.countP fun b => !b
theorem uns_set {S : List Bool} {y : Nat} (hy : y < S.length) (h : ¬ snK S y) : unsK (S.set y true) + 1 = unsK S := by
  unfold unsK
  rw [List.countP_set hy]
  have hb : S[y] = false := by
    unfold snK at h
    rw [getD_lt _ _ y hy] at h
    simpa using h
  have : 0 < S.countP fun b => !b := List.countP_pos_iff.2 ⟨S[y], List.getElem_mem hy, by rw [hb]; rfl⟩
  simp [hb]; omega
theorem sn_set {S : List Bool} {y z : Nat} (hy : y < S.length) : snK (S.set y true) z ↔ snK S z ∨ z = y := by
  unfold snK
  by_cases e : z = y
  · subst e; rw [getD_set_self _ _ _ _ hy]; simp
  · rw [getD_set_ne _ _ _ _ _ (Ne.symm e)]; simp [e]
theorem cnt_set {M : List Int} {y : Nat} {k : Int} (hy : y < M.length) (hk : 0 ≤ k) : cntM (M.set y k) = if 0 ≤ M.getD y 0 then cntM M else cntM M + 1 := by
  unfold cntM
  rw [List.countP_set hy, getD_lt _ _ y hy]
  by_cases h : 0 ≤ M[y]
  · have : 0 < M.countP fun x => decide (0 ≤ x) := List.countP_pos_iff.2 ⟨M[y], List.getElem_mem hy, decide_eq_true h⟩
    rw [if_pos h]; simp [h, hk]; omega
  · rw [if_neg h]; simp [h, hk]
/-! ### The search -/
abbrev FRK := List Bool × List Int × Bool
def goP (l : List Arc) (rec : Int → List Bool → List Int → FRK) (i : Int) : Nat → Nat → List Bool → List Int → FRK
  | _, 0, S, M => (S, M, false)
  | k, r + 1, S, M =>
    if (l.getD k default).src ≠ i ∨ S.getD (l.getD k default).dst.toNat false = true then goP l rec i (k + 1) r S M
    else if M.getD (l.getD k default).dst.toNat 0 < 0 then (S.set (l.getD k default).dst.toNat true, M.set (l.getD k default).dst.toNat k, true)
    else if (rec (l.getD (M.getD (l.getD k default).dst.toNat 0).toNat default).src (S.set (l.getD k default).dst.toNat true) M).2.2 = true then
      ((rec (l.getD (M.getD (l.getD k default).dst.toNat 0).toNat default).src (S.set (l.getD k default).dst.toNat true) M).1, (rec (l.getD (M.getD (l.getD k default).dst.toNat 0).toNat default).src (S.set (l.getD k default).dst.toNat true) M).2.1.set (l.getD k default).dst.toNat k, true)
    else goP l rec i (k + 1) r (rec (l.getD (M.getD (l.getD k default).dst.toNat 0).toNat default).src (S.set (l.getD k default).dst.toNat true) M).1 (rec (l.getD (M.getD (l.getD k default).dst.toNat 0).toNat default).src (S.set (l.getD k default).dst.toNat true) M).2.1
def findP (l : List Arc) : Nat → Int → List Bool → List Int → FRK
  | 0, _, S, M => (S, M, false)
  | f + 1, i, S, M => goP l (findP l f) i 0 l.length S M
/-- What may be asked. -/
structure AskK (l : List Arc) (n : Nat) (i : Int) (S : List Bool) (M : List Int) : Prop where
  mt : MtK l n M
  sl : S.length = n
  dist : DistK l n M fun y => ¬ snK S y
  fr : ∀ y, y < n → ¬ snK S y → onM M y → lfM l M y ≠ i
/-- One pair more. -/
structure WonK (l : List Arc) (n : Nat) (i : Int) (S : List Bool) (M M' : List Int) : Prop where
  mt : MtK l n M'
  keep : ∀ y, y < n → snK S y → M'.getD y 0 = M.getD y 0
  dist : DistK l n M' fun y => ¬ snK S y
  lf : ∀ y, y < n → ¬ snK S y → onM M' y → lfM l M' y = i ∨ ∃ z, z < n ∧ ¬ snK S z ∧ onM M z ∧ lfM l M z = lfM l M' y
  cnt : cntM M' = cntM M + 1
/-- No way on: what was seen is closed. -/
structure LostK (l : List Arc) (n : Nat) (i : Int) (S S' : List Bool) (M : List Int) : Prop where
  arcs : ∀ k, k < l.length → (l.getD k default).src = i → snK S' (l.getD k default).dst.toNat
  cl : ∀ y, y < n → snK S' y → ¬ snK S y → onM M y ∧ ∀ k, k < l.length → (l.getD k default).src = lfM l M y → snK S' (l.getD k default).dst.toNat
structure FPK (l : List Arc) (n : Nat) (i : Int) (S : List Bool) (M : List Int) (r : FRK) : Prop where
  sl : r.1.length = n
  sup : ∀ y, snK S y → snK r.1 y
  yes : r.2.2 = true → WonK l n i S M r.2.1
  no : r.2.2 = false → r.2.1 = M ∧ LostK l n i S r.1 M
/-- The arcs' second ends. -/
def DstIn (l : List Arc) (n : Nat) : Prop := ∀ k, k < l.length → 0 ≤ (l.getD k default).dst ∧ (l.getD k default).dst < n
theorem MtK.set {l : List Arc} {n : Nat} {M : List Int} (h : MtK l n M) {k : Nat} (hk : k < l.length) (hd : DstIn l n) : MtK l n (M.set (l.getD k default).dst.toNat k) where
  len := by rw [List.length_set]; exact h.len
  ok := fun y hy => by
    have hdk := hd k hk
    by_cases e : y = (l.getD k default).dst.toNat
    · subst e
      rw [getD_set_self _ _ _ _ (by rw [h.len]; omega)]
      right
      refine ⟨by omega, by omega, ?_⟩
      rw [Int.toNat_natCast]; omega
    · rw [getD_set_ne _ _ _ _ _ (Ne.symm e)]; exact h.ok y hy
theorem goK_spec {l : List Arc} {n f : Nat} (hd : DstIn l n) (ih : ∀ i S M, AskK l n i S M → unsK S + 1 ≤ f → FPK l n i S M (findP l f i S M)) {i : Int} {S : List Bool} {M : List Int} (hP : AskK l n i S M) (hf : unsK S ≤ f) :
    ∀ (r k : Nat) (S1 : List Bool), k + r = l.length → S1.length = n → (∀ y, snK S y → snK S1 y) → unsK S1 ≤ unsK S → (∀ j, j < k → (l.getD j default).src = i → snK S1 (l.getD j default).dst.toNat) →
      (∀ y, y < n → snK S1 y → ¬ snK S y → onM M y ∧ ∀ j, j < l.length → (l.getD j default).src = lfM l M y → snK S1 (l.getD j default).dst.toNat) → FPK l n i S M (goP l (findP l f) i k r S1 M)
  | 0, k, S1, hk, hl, hs, hu, ha, hc => by
    rw [goP]
    exact ⟨hl, hs, (fun q => by cases q), fun _ => ⟨rfl, ⟨fun j hj => ha j (by omega), hc⟩⟩⟩
  | r + 1, k, S1, hk, hl, hs, hu, ha, hc => by
    rw [goP]
    have hkl : k < l.length := by omega
    obtain ⟨d0, d1⟩ := hd k hkl
    obtain ⟨y0, hy0⟩ : ∃ y, (l.getD k default).dst.toNat = y := ⟨_, rfl⟩
    have hyn : y0 < n := by omega
    rw [hy0]
    by_cases c1 : (l.getD k default).src ≠ i ∨ S1.getD y0 false = true
    · rw [if_pos c1]
      refine goK_spec hd ih hP hf r (k + 1) S1 (by omega) hl hs hu (fun j hj he => ?_) hc
      rcases Nat.lt_succ_iff_lt_or_eq.1 hj with q | q
      · exact ha j q he
      · subst q
        rw [hy0]
        rcases c1 with c | c
        · exact absurd he c
        · exact c
    · rw [if_neg c1]
      have hsrc : (l.getD k default).src = i := Classical.byContradiction fun q => c1 (.inl q)
      have hns1 : ¬ snK S1 y0 := fun q => c1 (.inr q)
      have hns : ¬ snK S y0 := fun q => hns1 (hs y0 q)
      have hl1 : (S1.set y0 true).length = n := by rw [List.length_set]; exact hl
      have hset := fun z => sn_set (S := S1) (y := y0) (z := z) (by omega)
      have hu1 := uns_set (S := S1) (y := y0) (by omega) hns1
      have hMl := hP.mt.len
      by_cases c2 : M.getD y0 0 < 0
      · rw [if_pos c2]
        have hM' : MtK l n (M.set y0 k) := by have := hP.mt.set hkl hd; rwa [hy0] at this
        have hgy : (M.set y0 (k : Int)).getD y0 0 = k := getD_set_self _ _ _ _ (by omega)
        have hgo : ∀ z, z ≠ y0 → (M.set y0 (k : Int)).getD z 0 = M.getD z 0 := fun z hz => getD_set_ne _ _ _ _ _ (Ne.symm hz)
        have hly : lfM l (M.set y0 k) y0 = i := by unfold lfM; rw [hgy, Int.toNat_natCast, hsrc]
        have hlo : ∀ z, z ≠ y0 → lfM l (M.set y0 k) z = lfM l M z := fun z hz => by unfold lfM; rw [hgo z hz]
        refine ⟨hl1, fun y hy => (hset y).2 (.inl (hs y hy)), fun _ => ⟨hM', fun y hy hsy => hgo y (fun e => hns (by rw [← e]; exact hsy)), fun y z hy hz hpy hpz hne oy oz => ?_, fun y hy hpy oy => ?_, ?_⟩, fun q => by cases q⟩
        · by_cases ey : y = y0
          · subst ey
            rw [hly, hlo z (Ne.symm hne)]
            have oz' : onM M z := by unfold onM at oz ⊢; rwa [hgo z (Ne.symm hne)] at oz
            exact Ne.symm (hP.fr z hz hpz oz')
          · have oy' : onM M y := by unfold onM at oy ⊢; rwa [hgo y ey] at oy
            by_cases ez : z = y0
            · subst ez
              rw [hly, hlo y ey]
              exact hP.fr y hy hpy oy'
            · have oz' : onM M z := by unfold onM at oz ⊢; rwa [hgo z ez] at oz
              rw [hlo y ey, hlo z ez]
              exact hP.dist y z hy hz hpy hpz hne oy' oz'
        · by_cases ey : y = y0
          · subst ey; exact .inl hly
          · have oy' : onM M y := by unfold onM at oy ⊢; rwa [hgo y ey] at oy
            exact .inr ⟨y, hy, hpy, oy', (hlo y ey).symm⟩
        · show cntM (M.set y0 k) = _
          rw [cnt_set (by omega) (by omega), if_neg (by omega)]
      · rw [if_neg c2]
        have hon : onM M y0 := by unfold onM; omega
        obtain ⟨m1, m2, m3⟩ := (hP.mt.ok y0 hyn).resolve_left (fun q => by omega)
        have hP2 : AskK l n (l.getD (M.getD y0 0).toNat default).src (S1.set y0 true) M := by
          refine ⟨hP.mt, hl1, fun y z hy hz hpy hpz => hP.dist y z hy hz (fun q => hpy ((hset y).2 (.inl (hs y q)))) (fun q => hpz ((hset z).2 (.inl (hs z q)))), fun y hy hpy oy => ?_⟩
          have hne : y ≠ y0 := fun e => hpy ((hset y).2 (.inr e))
          exact hP.dist y y0 hy hyn (fun q => hpy ((hset y).2 (.inl (hs y q)))) hns hne oy hon
        obtain ⟨R, hR⟩ : ∃ R, findP l f (l.getD (M.getD y0 0).toNat default).src (S1.set y0 true) M = R := ⟨_, rfl⟩
        have hF := ih _ _ _ hP2 (by omega)
        rw [hR] at hF ⊢
        have hsup2 : ∀ y, snK S y → snK R.1 y := fun y hy => hF.sup y ((hset y).2 (.inl (hs y hy)))
        by_cases c3 : R.2.2 = true
        · rw [if_pos c3]
          have hW := hF.yes c3
          have hMl2 := hW.mt.len
          have hk0 : R.2.1.getD y0 0 = M.getD y0 0 := hW.keep y0 hyn ((hset y0).2 (.inr rfl))
          have hM' : MtK l n (R.2.1.set y0 k) := by have := hW.mt.set hkl hd; rwa [hy0] at this
          have hgy : (R.2.1.set y0 (k : Int)).getD y0 0 = k := getD_set_self _ _ _ _ (by omega)
          have hgo : ∀ z, z ≠ y0 → (R.2.1.set y0 (k : Int)).getD z 0 = R.2.1.getD z 0 := fun z hz => getD_set_ne _ _ _ _ _ (Ne.symm hz)
          have hly : lfM l (R.2.1.set y0 k) y0 = i := by unfold lfM; rw [hgy, Int.toNat_natCast, hsrc]
          have hlo : ∀ z, z ≠ y0 → lfM l (R.2.1.set y0 k) z = lfM l R.2.1 z := fun z hz => by unfold lfM; rw [hgo z hz]
          have hkeep : ∀ z, z < n → snK S1 z → R.2.1.getD z 0 = M.getD z 0 := fun z hz hs1 => hW.keep z hz ((hset z).2 (.inl hs1))
          -- where a left of the new pairs, but at y0, was before
          have hfrom : ∀ z, z < n → ¬ snK S z → z ≠ y0 → onM R.2.1 z → ∃ w, w < n ∧ ¬ snK S w ∧ onM M w ∧ lfM l M w = lfM l R.2.1 z ∧ (snK S1 z → w = z) ∧ (¬ snK S1 z → w = y0 ∨ ¬ snK S1 w) := fun z hz hpz hzy oz => by
            by_cases s1 : snK S1 z
            · have := hkeep z hz s1
              exact ⟨z, hz, hpz, by unfold onM at oz ⊢; rwa [this] at oz, by unfold lfM; rw [this], fun _ => rfl, fun q => absurd s1 q⟩
            · have hpz2 : ¬ snK (S1.set y0 true) z := fun q => by
                rcases (hset z).1 q with q | q
                · exact s1 q
                · exact hzy q
              rcases hW.lf z hz hpz2 oz with q | ⟨w, w1, w2, w3, w4⟩
              · exact ⟨y0, hyn, hns, hon, q.symm, fun q => absurd q s1, fun _ => .inl rfl⟩
              · exact ⟨w, w1, fun q => w2 ((hset w).2 (.inl (hs w q))), w3, w4, fun q => absurd q s1, fun _ => .inr fun q => w2 ((hset w).2 (.inl q))⟩
          refine ⟨hF.sl, hsup2, fun _ => ⟨hM', fun y hy hsy => ?_, fun y z hy hz hpy hpz hne oy oz => ?_, fun y hy hpy oy => ?_, ?_⟩, fun q => by cases q⟩
          · have hne : y ≠ y0 := fun e => hns (by rw [← e]; exact hsy)
            show (R.2.1.set y0 (k : Int)).getD y 0 = _
            rw [hgo y hne]; exact hkeep y hy (hs y hsy)
          · show lfM l (R.2.1.set y0 k) y ≠ lfM l (R.2.1.set y0 k) z
            have key : ∀ z, z < n → ¬ snK S z → z ≠ y0 → onM (R.2.1.set y0 k) z → lfM l (R.2.1.set y0 k) z ≠ i := fun z hz hpz hzy oz => by
              have oz' : onM R.2.1 z := by unfold onM at oz ⊢; rwa [hgo z hzy] at oz
              obtain ⟨w, w1, w2, w3, w4, _⟩ := hfrom z hz hpz hzy oz'
              rw [hlo z hzy, ← w4]
              exact hP.fr w w1 w2 w3
            by_cases ey : y = y0
            · subst ey
              rw [hly]; exact Ne.symm (key z hz hpz (Ne.symm hne) oz)
            · by_cases ez : z = y0
              · subst ez
                rw [hly]; exact key y hy hpy ey oy
              · have oy' : onM R.2.1 y := by unfold onM at oy ⊢; rwa [hgo y ey] at oy
                have oz' : onM R.2.1 z := by unfold onM at oz ⊢; rwa [hgo z ez] at oz
                rw [hlo y ey, hlo z ez]
                by_cases sy : snK S1 y
                · obtain ⟨w, w1, w2, w3, w4, w5, _⟩ := hfrom y hy hpy ey oy'
                  obtain ⟨x, x1, x2, x3, x4, x5, x6⟩ := hfrom z hz hpz ez oz'
                  rw [← w4, ← x4]
                  refine hP.dist w x w1 x1 w2 x2 (fun e => ?_) w3 x3
                  have ew := w5 sy
                  by_cases sz : snK S1 z
                  · exact hne (by rw [← ew, ← x5 sz]; exact e)
                  · rcases x6 sz with q | q
                    · exact ey (by rw [← ew, e]; exact q)
                    · exact q (by rw [← e, ew]; exact sy)
                · by_cases sz : snK S1 z
                  · obtain ⟨w, w1, w2, w3, w4, w5, w6⟩ := hfrom y hy hpy ey oy'
                    obtain ⟨x, x1, x2, x3, x4, x5, _⟩ := hfrom z hz hpz ez oz'
                    rw [← w4, ← x4]
                    refine hP.dist w x w1 x1 w2 x2 (fun e => ?_) w3 x3
                    have ex := x5 sz
                    rcases w6 sy with q | q
                    · exact ez (by rw [← ex, ← e]; exact q)
                    · exact q (by rw [e, ex]; exact sz)
                  · refine hW.dist y z hy hz (fun q => ?_) (fun q => ?_) hne oy' oz'
                    · rcases (hset y).1 q with q | q
                      · exact sy q
                      · exact ey q
                    · rcases (hset z).1 q with q | q
                      · exact sz q
                      · exact ez q
          · show lfM l (R.2.1.set y0 k) y = i ∨ ∃ z, z < n ∧ ¬ snK S z ∧ onM M z ∧ lfM l M z = lfM l (R.2.1.set y0 k) y
            by_cases ey : y = y0
            · subst ey; exact .inl hly
            · have oy' : onM R.2.1 y := by
                have oy2 : onM (R.2.1.set y0 k) y := oy
                unfold onM at oy2 ⊢; rwa [hgo y ey] at oy2
              obtain ⟨w, w1, w2, w3, w4, _⟩ := hfrom y hy hpy ey oy'
              exact .inr ⟨w, w1, w2, w3, by rw [hlo y ey]; exact w4⟩
          · show cntM (R.2.1.set y0 k) = _
            rw [cnt_set (by omega) (by omega), if_pos (by rw [hk0]; omega), hW.cnt]
        · rw [if_neg c3]
          have c3' : R.2.2 = false := by simpa using c3
          obtain ⟨hRM, hL⟩ := hF.no c3'
          rw [hRM]
          have hu2 : unsK R.1 ≤ unsK S := by
            refine Nat.le_trans ?_ hu
            have key : ∀ {A B : List Bool}, A.length = B.length → (∀ y, snK A y → snK B y) → unsK B ≤ unsK A := by
              intro A
              induction A with
              | nil => intro B hl _; cases B with
                | nil => exact Nat.le_refl _
                | cons b B => cases hl
              | cons a A ihA =>
                intro B hl hs
                cases B with
                | nil => cases hl
                | cons b B =>
                  have h0 := hs 0
                  have ht := ihA (B := B) (by simpa using hl) (fun y hy => by have := hs (y + 1); unfold snK at this hy ⊢; simpa using this (by simpa using hy))
                  unfold unsK at ht ⊢
                  rw [List.countP_cons, List.countP_cons]
                  unfold snK at h0
                  cases a <;> cases b <;> simp_all <;> omega
            exact key (by rw [hl, hF.sl]) (fun y hy => hF.sup y ((hset y).2 (.inl hy)))
          refine goK_spec hd ih hP hf r (k + 1) R.1 (by omega) hF.sl hsup2 hu2 (fun j hj he => ?_) (fun y hy s1 s2 => ?_)
          · rcases Nat.lt_succ_iff_lt_or_eq.1 hj with q | q
            · exact hF.sup _ ((hset _).2 (.inl (ha j q he)))
            · subst q
              rw [hy0]; exact hF.sup _ ((hset _).2 (.inr rfl))
          · by_cases sy : snK S1 y
            · obtain ⟨q1, q2⟩ := hc y hy sy s2
              exact ⟨q1, fun j hj he => hF.sup _ ((hset _).2 (.inl (q2 j hj he)))⟩
            · by_cases ey : y = y0
              · subst ey
                exact ⟨hon, fun j hj he => hL.arcs j hj he⟩
              · exact hL.cl y hy s1 (fun q => by
                  rcases (hset y).1 q with q | q
                  · exact sy q
                  · exact ey q)
theorem find_spec {l : List Arc} {n : Nat} (hd : DstIn l n) : ∀ (f : Nat) (i : Int) (S : List Bool) (M : List Int), AskK l n i S M → unsK S + 1 ≤ f → FPK l n i S M (findP l f i S M)
  | 0, _, _, _, _, h => by omega
  | f + 1, i, S, M, hP, hf => by
    rw [findP]
    exact goK_spec hd (fun i S M h1 h2 => find_spec hd f i S M h1 h2) hP (by omega) l.length 0 S (by omega) hP.sl (fun _ h => h) (Nat.le_refl _) (fun j hj => by omega) (fun y _ s1 s2 => absurd s1 s2)
/-! ### What the walk needs -/
def OkM (l : List Arc) (n : Nat) (M : List Int) : Prop := M.length = n ∧ ∀ y : Nat, y < n → -1 ≤ M.getD y 0 ∧ M.getD y 0 < l.length
theorem OkM.set {l : List Arc} {n : Nat} {M : List Int} (h : OkM l n M) {k : Nat} (hk : k < l.length) (z : Nat) : OkM l n (M.set z k) :=
  ⟨by rw [List.length_set]; exact h.1, fun y hy => by
    by_cases e : z = y
    · subst e; rw [getD_set_self _ _ _ _ (by rw [h.1]; exact hy)]; omega
    · rw [getD_set_ne _ _ _ _ _ e]; exact h.2 y hy⟩
structure SaneK (l : List Arc) (n : Nat) (S : List Bool) (r : FRK) : Prop where
  sl : r.1.length = n
  un : unsK r.1 ≤ unsK S
  ok : OkM l n r.2.1
theorem uns_le {S : List Bool} {y : Nat} : unsK (S.set y true) ≤ unsK S := by
  by_cases hy : y < S.length
  · by_cases h : snK S y
    · have : S.set y true = S := by
        unfold snK at h
        rw [getD_lt _ _ y hy] at h
        rw [← h]; exact List.set_getElem_self hy
      rw [this]; exact Nat.le_refl _
    · have := uns_set hy h; omega
  · rw [List.set_eq_of_length_le (by omega)]; exact Nat.le_refl _
theorem go_sane {l : List Arc} {n : Nat} {rec : Int → List Bool → List Int → FRK} (hr : ∀ i S M, S.length = n → OkM l n M → SaneK l n S (rec i S M)) {i : Int} : ∀ (r k : Nat) (S : List Bool) (M : List Int), k + r ≤ l.length → S.length = n → OkM l n M → SaneK l n S (goP l rec i k r S M)
  | 0, k, S, M, _, hS, hM => by rw [goP]; exact ⟨hS, Nat.le_refl _, hM⟩
  | r + 1, k, S, M, hk, hS, hM => by
    rw [goP]
    have hS1 : (S.set (l.getD k default).dst.toNat true).length = n := by rw [List.length_set]; exact hS
    have hR := hr (l.getD (M.getD (l.getD k default).dst.toNat 0).toNat default).src (S.set (l.getD k default).dst.toNat true) M hS1 hM
    have hu := uns_le (S := S) (y := (l.getD k default).dst.toNat)
    split
    · exact go_sane hr r (k + 1) S M (by omega) hS hM
    · split
      · exact ⟨hS1, hu, hM.set (by omega) _⟩
      · split
        · exact ⟨hR.sl, Nat.le_trans hR.un hu, hR.ok.set (by omega) _⟩
        · have := go_sane hr (i := i) r (k + 1) _ _ (by omega) hR.sl hR.ok
          exact ⟨this.sl, Nat.le_trans this.un (Nat.le_trans hR.un hu), this.ok⟩
theorem find_sane {l : List Arc} {n : Nat} : ∀ (f : Nat) (i : Int) (S : List Bool) (M : List Int), S.length = n → OkM l n M → SaneK l n S (findP l f i S M)
  | 0, i, S, M, hS, hM => by rw [findP]; exact ⟨hS, Nat.le_refl _, hM⟩
  | f + 1, i, S, M, hS, hM => by rw [findP]; exact go_sane (fun i S M hS hM => find_sane f i S M hS hM) l.length 0 S M (by omega) hS hM
abbrev dK (l : List Arc) (k : Nat) : Nat := (l.getD k default).dst.toNat
abbrev recK (l : List Arc) (f : Nat) (S : List Bool) (M : List Int) (k : Nat) : FRK := findP l f (l.getD (M.getD (dK l k) 0).toNat default).src (S.set (dK l k) true) M
theorem go_skip {l : List Arc} {rec : Int → List Bool → List Int → FRK} {i : Int} {k : Nat} {S : List Bool} {M : List Int} (hk : k < l.length) (h : (l.getD k default).src ≠ i ∨ S.getD (dK l k) false = true) : goP l rec i k (l.length - k) S M = goP l rec i (k + 1) (l.length - (k + 1)) S M := by
  rw [show l.length - k = (l.length - (k + 1)) + 1 by omega, goP, if_pos h]
theorem go_new {l : List Arc} {rec : Int → List Bool → List Int → FRK} {i : Int} {k : Nat} {S : List Bool} {M : List Int} (hk : k < l.length) (h : ¬ ((l.getD k default).src ≠ i ∨ S.getD (dK l k) false = true)) (h2 : M.getD (dK l k) 0 < 0) : goP l rec i k (l.length - k) S M = (S.set (dK l k) true, M.set (dK l k) k, true) := by
  rw [show l.length - k = (l.length - (k + 1)) + 1 by omega, goP, if_neg h, if_pos h2]
theorem go_won {l : List Arc} {f : Nat} {i : Int} {k : Nat} {S : List Bool} {M : List Int} (hk : k < l.length) (h : ¬ ((l.getD k default).src ≠ i ∨ S.getD (dK l k) false = true)) (h2 : ¬ M.getD (dK l k) 0 < 0) (h3 : (recK l f S M k).2.2 = true) : goP l (findP l f) i k (l.length - k) S M = ((recK l f S M k).1, (recK l f S M k).2.1.set (dK l k) k, true) := by
  rw [show l.length - k = (l.length - (k + 1)) + 1 by omega, goP, if_neg h, if_neg h2, if_pos h3]
theorem go_next {l : List Arc} {f : Nat} {i : Int} {k : Nat} {S : List Bool} {M : List Int} (hk : k < l.length) (h : ¬ ((l.getD k default).src ≠ i ∨ S.getD (dK l k) false = true)) (h2 : ¬ M.getD (dK l k) 0 < 0) (h3 : (recK l f S M k).2.2 = false) : goP l (findP l f) i k (l.length - k) S M = goP l (findP l f) i (k + 1) (l.length - (k + 1)) (recK l f S M k).1 (recK l f S M k).2.1 := by
  rw [show l.length - k = (l.length - (k + 1)) + 1 by omega, goP, if_neg h, if_neg h2, if_neg (by rw [h3]; exact Bool.noConfusion)]
theorem go_end {l : List Arc} {rec : Int → List Bool → List Int → FRK} {i : Int} {k : Nat} {S : List Bool} {M : List Int} (hk : l.length ≤ k) : goP l rec i k (l.length - k) S M = (S, M, false) := by
  rw [show l.length - k = 0 by omega, goP]
/-! ### The pairs, and what is asked of what is handed in -/
def matesP (l : List Arc) (n : Nat) : Nat → List Int
  | 0 => List.replicate n (-1)
  | i + 1 => (findP l (n + 1) i (List.replicate n false) (matesP l n i)).2.1
theorem uns_start (n : Nat) : unsK (List.replicate n false) ≤ n := by
  have := List.countP_le_length (p := fun b : Bool => !b) (l := List.replicate n false)
  rw [List.length_replicate] at this; exact this
theorem neg_ok (l : List Arc) (n : Nat) : OkM l n (List.replicate n (-1)) := ⟨List.length_replicate, fun y hy => by
  rw [getD_lt _ _ y (by rw [List.length_replicate]; exact hy), List.getElem_replicate]; omega⟩
theorem mates_ok (l : List Arc) (n : Nat) : ∀ i, OkM l n (matesP l n i)
  | 0 => neg_ok l n
  | i + 1 => (find_sane (n + 1) i _ _ List.length_replicate (mates_ok l n i)).ok
def offM (m n : Int) (a : Arc) : Bool := decide (a.src < 0) || decide (m ≤ a.src) || decide (a.dst < 0) || decide (n ≤ a.dst)
theorem offM_iff {m n : Int} {a : Arc} : offM m n a = true ↔ a.src < 0 ∨ m ≤ a.src ∨ a.dst < 0 ∨ n ≤ a.dst := by
  unfold offM; simp only [Bool.or_eq_true, decide_eq_true_eq]; omega
def matchErr (m n : Int) (l : List Arc) : Int := if m < 0 ∨ 12 < m ∨ n < 0 ∨ 12 < n then 1 else if 60 < l.length then 2 else if l.any (offM m n) = true then 4 else 0
structure MatchOk (m n : Int) (l : List Arc) : Prop where
  m0 : 0 ≤ m
  m12 : m ≤ 12
  n0 : 0 ≤ n
  n12 : n ≤ 12
  len : l.length ≤ 60
  src : ∀ k, k < l.length → 0 ≤ (l.getD k default).src ∧ (l.getD k default).src < m
  dst : ∀ k, k < l.length → 0 ≤ (l.getD k default).dst ∧ (l.getD k default).dst < n
theorem matchErr_ok {m n : Int} {l : List Arc} (h : matchErr m n l = 0) : MatchOk m n l := by
  unfold matchErr at h
  split at h
  · cases h
  · split at h
    · cases h
    · split at h
      · cases h
      · rename_i h1 h2 h3
        have key : ∀ k, k < l.length → ¬ (offM m n (l.getD k default) = true) := fun k hk q => h3 (List.any_eq_true.2 ⟨_, by rw [getD_lt _ _ k hk]; exact List.getElem_mem hk, q⟩)
        exact ⟨by omega, by omega, by omega, by omega, by omega, fun k hk => by have := mt offM_iff.2 (key k hk); omega, fun k hk => by have := mt offM_iff.2 (key k hk); omega⟩
theorem MatchOk.dstIn {m n : Int} {l : List Arc} (h : MatchOk m n l) : DstIn l n.toNat := fun k hk => by have := h.dst k hk; have := h.n0; omega
/-- What is not -1, in its order. -/
def pickM : List Int → List Int
  | [] => []
  | x :: r => if 0 ≤ x then x :: pickM r else pickM r
theorem pick_snoc (r : List Int) (x : Int) : pickM (r ++ [x]) = pickM r ++ if 0 ≤ x then [x] else [] := by
  induction r with
  | nil => rw [List.nil_append, pickM, pickM]; split <;> rfl
  | cons a r ih => rw [List.cons_append, pickM, pickM, ih]; split <;> rfl
theorem pick_le : ∀ r : List Int, (pickM r).length ≤ r.length
  | [] => Nat.le_refl _
  | x :: r => by rw [pickM]; have := pick_le r; split <;> simp <;> omega
theorem pick_len : ∀ r : List Int, (pickM r).length = cntM r
  | [] => rfl
  | x :: r => by
    have := pick_len r
    unfold cntM at this ⊢
    rw [pickM, List.countP_cons]
    by_cases h : 0 ≤ x
    · rw [if_pos h, List.length_cons, this]; simp [h]
    · rw [if_neg h, this]; simp [h]
theorem pick_mem {x : Int} : ∀ {r : List Int}, x ∈ pickM r ↔ x ∈ r ∧ 0 ≤ x
  | [] => by simp [pickM]
  | a :: r => by
    rw [pickM]
    split
    · rw [List.mem_cons, pick_mem, List.mem_cons]; constructor
      · rintro (rfl | ⟨h1, h2⟩)
        · exact ⟨.inl rfl, by assumption⟩
        · exact ⟨.inr h1, h2⟩
      · rintro ⟨rfl | h1, h2⟩
        · exact .inl rfl
        · exact .inr ⟨h1, h2⟩
    · rw [pick_mem, List.mem_cons]; constructor
      · exact fun h => ⟨.inr h.1, h.2⟩
      · rintro ⟨rfl | h1, h2⟩
        · omega
        · exact ⟨h1, h2⟩
theorem pick_take {M : List Int} {k : Nat} (h : k < M.length) : pickM (M.take (k + 1)) = pickM (M.take k) ++ if 0 ≤ M.getD k 0 then [M.getD k 0] else [] := by
  rw [show M.take (k + 1) = M.take k ++ [M.getD k 0] from by rw [List.take_add_one, List.getElem?_eq_getElem h, getD_lt _ _ k h]; rfl, pick_snoc]
end Go.Ab
