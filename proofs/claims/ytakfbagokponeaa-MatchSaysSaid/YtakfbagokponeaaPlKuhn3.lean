/- Of pairs of two sides: as many as there can be; what holds them all. -/
import Derived.Test.YtakfbagokponeaaPlKuhn2
import Derived.Test.YtakfbagokponeaaPlA
namespace Go.Ab
/-- Pairs, with first sides below i. -/
structure MtxK (l : List Arc) (n : Nat) (i : Int) (N : List Int) : Prop where
  mt : MtK l n N
  dist : DistK l n N fun _ => True
  lf : ∀ y, y < n → onM N y → lfM l N y < i
theorem MtxK.mono {l : List Arc} {n : Nat} {i j : Int} {N : List Int} (h : MtxK l n i N) (hij : i ≤ j) : MtxK l n j N := ⟨h.mt, h.dist, fun y hy ho => by have := h.lf y hy ho; omega⟩
theorem cnt_range (N : List Int) : cntM N = (List.range N.length).countP fun y => decide (0 ≤ N.getD y 0) := by
  have h : ∀ (P : List Int), (List.range P.length).countP (fun y => decide (0 ≤ (P ++ []).getD y 0)) = cntM P := by
    intro P
    rw [List.append_nil]
    unfold cntM
    have : P = (List.range P.length).map (fun y => P.getD y 0) := by
      apply List.ext_getElem (by simp)
      intro i h1 h2
      simp [List.getD_eq_getElem?_getD, List.getElem?_eq_getElem h1]
    conv => rhs; rw [this]
    rw [List.countP_map]; rfl
  have := h N
  rw [List.append_nil] at this
  exact this.symm
theorem cnt_mono {N M : List Int} (hl : N.length = M.length) (h : ∀ y, y < N.length → onM N y → onM M y) : cntM N ≤ cntM M := by
  rw [cnt_range, cnt_range, hl]
  refine List.countP_mono_left fun y hy q => ?_
  have hy := List.mem_range.1 hy
  have q : 0 ≤ N.getD y 0 := by simpa using q
  have := h y (by omega) q
  unfold onM at this; simpa using this
theorem cnt_drop {N : List Int} {y : Nat} (hy : y < N.length) (ho : onM N y) : cntM (N.set y (-1)) + 1 = cntM N := by
  unfold cntM
  rw [List.countP_set hy]
  have hb : 0 ≤ N[y] := by unfold onM at ho; rwa [getD_lt _ _ y hy] at ho
  have : 0 < N.countP fun x => decide (0 ≤ x) := List.countP_pos_iff.2 ⟨N[y], List.getElem_mem hy, decide_eq_true hb⟩
  simp [hb]; omega
/-- One pair is given up. -/
theorem MtxK.drop {l : List Arc} {n : Nat} {i : Int} {N : List Int} (h : MtxK l n (i + 1) N) {y : Nat} (hy : y < n) (hs : onM N y) (hi : lfM l N y = i) : MtxK l n i (N.set y (-1)) := by
  have hl := h.mt.len
  have hgy : (N.set y (-1 : Int)).getD y 0 = -1 := getD_set_self _ _ _ _ (by omega)
  have hgo : ∀ z, z ≠ y → (N.set y (-1 : Int)).getD z 0 = N.getD z 0 := fun z hz => getD_set_ne _ _ _ _ _ (Ne.symm hz)
  have hon : ∀ z, onM (N.set y (-1)) z → z ≠ y ∧ onM N z := fun z hz => by
    by_cases e : z = y
    · subst e; unfold onM at hz; rw [hgy] at hz; omega
    · unfold onM at hz ⊢; rw [hgo z e] at hz; exact ⟨e, hz⟩
  have hlf : ∀ z, z ≠ y → lfM l (N.set y (-1)) z = lfM l N z := fun z hz => by unfold lfM; rw [hgo z hz]
  refine ⟨⟨by rw [List.length_set]; exact hl, fun z hz => ?_⟩, fun a b ha hb _ _ hab oa ob => ?_, fun z hz oz => ?_⟩
  · by_cases e : z = y
    · subst e; exact .inl hgy
    · rw [hgo z e]; exact h.mt.ok z hz
  · obtain ⟨a1, a2⟩ := hon a oa
    obtain ⟨b1, b2⟩ := hon b ob
    rw [hlf a a1, hlf b b1]; exact h.dist a b ha hb trivial trivial hab a2 b2
  · obtain ⟨z1, z2⟩ := hon z oz
    rw [hlf z z1]
    have h1 := h.lf z hz z2
    have h2 := h.dist z y hz hy trivial trivial z1 z2 hs
    omega
/-- What the search asks for. -/
theorem MtxK.ask {l : List Arc} {n : Nat} {M : List Int} {j i : Int} (h : MtxK l n j M) (hf : ∀ y, y < n → onM M y → lfM l M y ≠ i) : AskK l n i (List.replicate n false) M :=
  ⟨h.mt, List.length_replicate, fun y z hy hz _ _ => h.dist y z hy hz trivial trivial, fun y hy _ ho => hf y hy ho⟩
theorem none_sn {n y : Nat} : ¬ snK (List.replicate n false) y := fun h => by
  unfold snK at h
  by_cases hy : y < n
  · rw [getD_lt _ _ y (by rw [List.length_replicate]; exact hy), List.getElem_replicate] at h; cases h
  · rw [List.getD_eq_getElem?_getD, List.getElem?_eq_none (by rw [List.length_replicate]; omega)] at h; cases h
theorem WonK.mtx {l : List Arc} {n : Nat} {M M2 : List Int} {j i : Int} (hw : WonK l n i (List.replicate n false) M M2) (h : MtxK l n j M) (hij : i < j) : MtxK l n j M2 :=
  ⟨hw.mt, fun y z hy hz _ _ => hw.dist y z hy hz none_sn none_sn, fun y hy ho => by
    rcases hw.lf y hy none_sn ho with q | ⟨z, z1, _, z3, z4⟩
    · omega
    · have := h.lf z z1 z3; omega⟩
/-- Where there is no way on, no pairs are more. -/
theorem LostK.most {l : List Arc} {n : Nat} {M N : List Int} {S : List Bool} {i : Int} (hL : LostK l n i (List.replicate n false) S M) (hM : MtxK l n i M) (hb : ∀ N, MtxK l n i N → cntM N ≤ cntM M) (hN : MtxK l n (i + 1) N) : cntM N ≤ cntM M := by
  have hMl := hM.mt.len
  have hNl := hN.mt.len
  obtain ⟨N2, hN2⟩ : ∃ N2, N2 = (List.range n).map fun y => if S.getD y false = true then M.getD y 0 else N.getD y 0 := ⟨_, rfl⟩
  have hl2 : N2.length = n := by rw [hN2]; simp
  have hat : ∀ y, y < n → N2.getD y 0 = if S.getD y false = true then M.getD y 0 else N.getD y 0 := fun y hy => by
    rw [hN2, getD_lt _ _ y (by simpa using hy), List.getElem_map, List.getElem_range]
  have hyes : ∀ y, y < n → snK S y → N2.getD y 0 = M.getD y 0 := fun y hy q => by rw [hat y hy]; exact if_pos q
  have hno : ∀ y, y < n → ¬ snK S y → N2.getD y 0 = N.getD y 0 := fun y hy q => by rw [hat y hy]; exact if_neg q
  have hto : ∀ y, y < n → onM N y → ((N.getD y 0).toNat < l.length ∧ (l.getD (N.getD y 0).toNat default).dst.toNat = y) := fun y hy ho => by
    rcases hN.mt.ok y hy with q | ⟨q1, q2, q3⟩
    · unfold onM at ho; omega
    · exact ⟨by omega, by omega⟩
  have h2 : MtxK l n i N2 := by
    refine ⟨⟨hl2, fun y hy => ?_⟩, fun y z hy hz _ _ hne oy oz => ?_, fun y hy oy => ?_⟩
    · by_cases s : snK S y
      · rw [hyes y hy s]; exact hM.mt.ok y hy
      · rw [hno y hy s]; exact hN.mt.ok y hy
    · have key : ∀ y z, y < n → z < n → snK S y → ¬ snK S z → onM M y → onM N z → lfM l M y ≠ lfM l N z := fun y z hy hz sy sz oy oz e => by
        obtain ⟨z1, z2⟩ := hto z hz oz
        have := (hL.cl y hy sy none_sn).2 (N.getD z 0).toNat z1 e.symm
        rw [z2] at this
        exact sz this
      by_cases sy : snK S y
      · have ey := hyes y hy sy
        have oy' : onM M y := by unfold onM at oy ⊢; rwa [ey] at oy
        by_cases sz : snK S z
        · have ez := hyes z hz sz
          have oz' : onM M z := by unfold onM at oz ⊢; rwa [ez] at oz
          unfold lfM; rw [ey, ez]; exact hM.dist y z hy hz trivial trivial hne oy' oz'
        · have ez := hno z hz sz
          have oz' : onM N z := by unfold onM at oz ⊢; rwa [ez] at oz
          unfold lfM; rw [ey, ez]; exact key y z hy hz sy sz oy' oz'
      · have ey := hno y hy sy
        have oy' : onM N y := by unfold onM at oy ⊢; rwa [ey] at oy
        by_cases sz : snK S z
        · have ez := hyes z hz sz
          have oz' : onM M z := by unfold onM at oz ⊢; rwa [ez] at oz
          unfold lfM; rw [ey, ez]; exact Ne.symm (key z y hz hy sz sy oz' oy')
        · have ez := hno z hz sz
          have oz' : onM N z := by unfold onM at oz ⊢; rwa [ez] at oz
          unfold lfM; rw [ey, ez]; exact hN.dist y z hy hz trivial trivial hne oy' oz'
    · by_cases sy : snK S y
      · have ey := hyes y hy sy
        have oy' : onM M y := by unfold onM at oy ⊢; rwa [ey] at oy
        unfold lfM; rw [ey]; exact hM.lf y hy oy'
      · have ey := hno y hy sy
        have oy' : onM N y := by unfold onM at oy ⊢; rwa [ey] at oy
        obtain ⟨z1, z2⟩ := hto y hy oy'
        have h1 := hN.lf y hy oy'
        have h3 : lfM l N y ≠ i := fun e => by
          have := hL.arcs (N.getD y 0).toNat z1 e
          rw [z2] at this
          exact sy this
        unfold lfM at h1 h3 ⊢; rw [ey]; omega
  refine Nat.le_trans (cnt_mono (by omega) fun y hy oy => ?_) (hb N2 h2)
  rw [hNl] at hy
  by_cases sy : snK S y
  · unfold onM; rw [hyes y hy sy]; exact (hL.cl y hy sy none_sn).1
  · unfold onM; rw [hno y hy sy]; exact oy
/-- The pairs that are found are as many as there can be. -/
theorem mates_max {l : List Arc} {n : Nat} (hd : DstIn l n) (hs : ∀ k, k < l.length → 0 ≤ (l.getD k default).src) : ∀ i : Nat, MtxK l n i (matesP l n i) ∧ ∀ N, MtxK l n i N → cntM N ≤ cntM (matesP l n i)
  | 0 => by
    have hng : ∀ y, y < n → (List.replicate n (-1 : Int)).getD y 0 = -1 := fun y hy => by rw [getD_lt _ _ y (by rw [List.length_replicate]; exact hy), List.getElem_replicate]
    refine ⟨⟨⟨List.length_replicate, fun y hy => .inl (hng y hy)⟩, fun y z hy _ _ _ _ oy _ => ?_, fun y hy oy => ?_⟩, fun N hN => ?_⟩
    · unfold onM matesP at oy; rw [hng y hy] at oy; omega
    · unfold onM matesP at oy; rw [hng y hy] at oy; omega
    · have : ∀ y, y < N.length → ¬ onM N y := fun y hy ho => by
        rw [hN.mt.len] at hy
        have h1 := hN.lf y hy ho
        rcases hN.mt.ok y hy with q | ⟨q1, q2, q3⟩
        · unfold onM at ho; omega
        · have := hs (N.getD y 0).toNat (by omega)
          unfold lfM at h1; omega
      refine cnt_mono (by rw [hN.mt.len]; exact List.length_replicate.symm) fun y hy ho => absurd ho (this y hy)
  | i + 1 => by
    obtain ⟨h1, h2⟩ := mates_max hd hs i
    have hask := h1.ask (i := i) (fun y hy ho => by have := h1.lf y hy ho; omega)
    have hF := find_spec hd (n + 1) i _ _ hask (by have := uns_start n; omega)
    rw [matesP]
    obtain ⟨R, hR⟩ : ∃ R, findP l (n + 1) i (List.replicate n false) (matesP l n i) = R := ⟨_, rfl⟩
    rw [hR] at hF ⊢
    have hc : ((i + 1 : Nat) : Int) = (i : Int) + 1 := by omega
    rw [hc]
    by_cases c : R.2.2 = true
    · have hW := hF.yes c
      refine ⟨hW.mtx (h1.mono (by omega)) (by omega), fun N hN => ?_⟩
      rw [hW.cnt]
      by_cases hy : ∃ y, y < n ∧ onM N y ∧ lfM l N y = i
      · obtain ⟨y, y1, y2, y3⟩ := hy
        have := h2 _ (hN.drop y1 y2 y3)
        have := cnt_drop (N := N) (y := y) (by rw [hN.mt.len]; exact y1) y2
        omega
      · have := h2 N ⟨hN.mt, hN.dist, fun y y1 y2 => by
          have q1 := hN.lf y y1 y2
          have q2 : lfM l N y ≠ i := fun e => hy ⟨y, y1, y2, e⟩
          omega⟩
        omega
    · obtain ⟨hM, hL⟩ := hF.no (by simpa using c)
      rw [hM]
      exact ⟨h1.mono (by omega), fun N hN => hL.most h1 h2 hN⟩
end Go.Ab
