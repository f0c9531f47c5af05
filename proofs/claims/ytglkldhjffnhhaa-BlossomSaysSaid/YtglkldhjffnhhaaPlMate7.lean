/- Of odd parts, as the code counts them: the plain laws. -/
import Derived.Test.YtglkldhjffnhhaaPlMate6
namespace Go.Ab
theorem take_gD {l : List Int} {n v : Nat} (h : v < n) : (l.take n).getD v 0 = l.getD v 0 := by
  rw [List.getD_eq_getElem?_getD, List.getD_eq_getElem?_getD, List.getElem?_take, if_pos h]
theorem kept_take {es : List Arc} {z : Int} {i : Nat} (hi : i < es.length) : keptZ (es.take (i + 1)) z = keptZ (es.take i) z ++ if outB z (es.getD i default) = true then [es.getD i default] else [] := by
  unfold keptZ
  rw [List.take_add_one, List.getElem?_eq_getElem hi, getD_lt es default i hi, List.filter_append]
  congr 1
  show List.filter (outB z) [es[i]] = _
  rw [List.filter_cons]; split <;> rfl
theorem kept_all {es : List Arc} {z : Int} {i : Nat} (hi : es.length ≤ i) : keptZ (es.take i) z = keptZ es z := by rw [List.take_of_length_le hi]
theorem kept_split (es : List Arc) (z : Int) (i : Nat) : keptZ es z = keptZ (es.take i) z ++ keptZ (es.drop i) z := by
  unfold keptZ; rw [← List.filter_append, List.take_append_drop]
theorem kept_at {es : List Arc} {z : Int} {i : Nat} (hi : i < es.length) (h : outB z (es.getD i default) = true) : (keptZ (es.take i) z).length < (keptZ es z).length ∧ (keptZ es z).getD (keptZ (es.take i) z).length default = es.getD i default := by
  have h1 := kept_split es z (i + 1)
  rw [kept_take hi, if_pos h] at h1
  rw [h1, List.append_assoc]
  refine ⟨by rw [List.length_append, List.length_append, List.length_singleton]; omega, ?_⟩
  generalize keptZ (es.take i) z = a
  rw [List.getD_eq_getElem?_getD, List.getElem?_append_right (Nat.le_refl _)]; simp
structure OddK (n : Int) (es : List Arc) (z : Int) (P : List Int) (r : Nat) : Prop where
  len : P.length = 12
  lab : Lab n (keptZ es z) (P.take n.toNat)
  near : Near n (keptZ es z) (P.take n.toNat) r
structure OddR (n : Int) (es : List Arc) (z : Int) (P P2 : List Int) (i : Nat) : Prop where
  len : P2.length = 12
  lab : Lab n (keptZ es z) (P2.take n.toNat)
  rnd : Round (keptZ es z) (P.take n.toNat) (P2.take n.toNat) (keptZ (es.take i) z).length
theorem OddK.start {n : Int} {es : List Arc} {z : Int} {P : List Int} (h9 : n ≤ 9) (hl : P.length = 12) (h : ∀ v, v < 12 → P.getD v 0 = v) : OddK n es z P 0 := by
  have := lab_start (es := keptZ es z) (n := n) (o := P.take n.toNat) (by rw [List.length_take]; omega) (fun v hv => by rw [take_gD hv]; exact h v (by omega))
  exact ⟨hl, this.1, this.2⟩
theorem OddK.round {n : Int} {es : List Arc} {z : Int} {P : List Int} {r : Nat} (h : OddK n es z P r) : OddR n es z P P 0 := ⟨h.len, h.lab, Round.start⟩
theorem OddK.at_ {n : Int} {es : List Arc} {z : Int} {P : List Int} {r : Nat} (h : OddK n es z P r) {v : Nat} (hv : v < n.toNat) : 0 ≤ P.getD v 0 ∧ P.getD v 0 < n := by
  have := h.lab.at_ v hv
  rw [take_gD hv] at this
  exact ⟨this.1, this.2.1⟩
theorem OddR.yes {n : Int} {es : List Arc} {z : Int} {P P2 : List Int} {i : Nat} (h : OddR n es z P P2 i) (hA : InR n es) (hi : i < es.length) (h1 : has z (es.getD i default).src.toNat = false) (h2 : has z (es.getD i default).dst.toNat = false) {m : Int}
    (hm : m = min (P2.getD (es.getD i default).src.toNat 0) (P2.getD (es.getD i default).dst.toNat 0)) : OddR n es z P ((P2.set (es.getD i default).src.toNat m).set (es.getD i default).dst.toNat m) (i + 1) := by
  obtain ⟨b1, b2, b3, b4⟩ := hA _ (getD_mem (d := default) hi)
  have ho : outB z (es.getD i default) = true := by unfold outB; rw [h1, h2]; rfl
  obtain ⟨k1, k2⟩ := kept_at hi ho
  have hs := h.lab.step h.rnd (kept_inR hA z) k1 (m := m) (by rw [k2, take_gD (by omega), take_gD (by omega)]; exact hm)
  rw [k2] at hs
  refine ⟨by rw [List.length_set, List.length_set]; exact h.len, by rw [List.take_set, List.take_set]; exact hs.1, ?_⟩
  rw [List.take_set, List.take_set, kept_take hi, if_pos ho, List.length_append]
  exact hs.2
theorem OddR.no {n : Int} {es : List Arc} {z : Int} {P P2 : List Int} {i : Nat} (h : OddR n es z P P2 i) (hi : i < es.length) (hn : ¬ (has z (es.getD i default).src.toNat = false ∧ has z (es.getD i default).dst.toNat = false)) : OddR n es z P P2 (i + 1) :=
  ⟨h.len, h.lab, by
    rw [kept_take hi, if_neg fun q => ?_, List.append_nil]
    · exact h.rnd
    · unfold outB at q; rw [Bool.and_eq_true, Bool.not_eq_true', Bool.not_eq_true'] at q; exact hn q⟩
theorem OddR.next {n : Int} {es : List Arc} {z : Int} {P P2 : List Int} {i r : Nat} (h : OddR n es z P P2 i) (hK : OddK n es z P r) (hA : InR n es) (hi : es.length ≤ i) : OddK n es z P2 (r + 1) :=
  ⟨h.len, h.lab, hK.near.step h.rnd (by rw [kept_all hi]; exact Nat.le_refl _) (kept_inR hA z)⟩
theorem OddK.end_ {n : Int} {es : List Arc} {z : Int} {P : List Int} {r : Nat} (h : OddK n es z P r) (hA : InR n es) (h9 : n ≤ 9) (hr : n.toNat ≤ r) {v : Nat} (hv : v < n.toNat) : P.getD v 0 = ((labZ n es z v : Nat) : Int) := by
  have h1 := parts_end h.lab h.near hr (by omega) (kept_inR hA z)
  have h2 := h.at_ hv
  have h3 : P.getD v 0 = rootOf n (keptZ es z) v := by unfold rootOf; rw [← h1, take_gD hv]
  unfold labZ; omega
def cntK (n : Int) (es : List Arc) (z : Int) (x k : Nat) : Nat := cntP k (labP (labZ n es z) (freeP n.toNat z) x)
theorem cntK_succ (n : Int) (es : List Arc) (z : Int) (x k : Nat) : cntK n es z x (k + 1) = cntK n es z x k + if labP (labZ n es z) (freeP n.toNat z) x k = true then 1 else 0 := rfl
def CntM (n : Int) (es : List Arc) (z : Int) (M : List Int) (k : Nat) : Prop := M.length = 12 ∧ ∀ x : Nat, x < 12 → M.getD x 0 = ((cntK n es z x k : Nat) : Int)
theorem CntM.start (n : Int) (es : List Arc) (z : Int) : CntM n es z [0, 0, 0, 0, 0, 0, 0, 0, 0, 0, 0, 0] 0 := ⟨rfl, fun x hx => by
  match x, hx with
  | 0, _ => rfl
  | 1, _ => rfl
  | 2, _ => rfl
  | 3, _ => rfl
  | 4, _ => rfl
  | 5, _ => rfl
  | 6, _ => rfl
  | 7, _ => rfl
  | 8, _ => rfl
  | 9, _ => rfl
  | 10, _ => rfl
  | 11, _ => rfl⟩
theorem cntK_le (n : Int) (es : List Arc) (z : Int) (x : Nat) : ∀ k, cntK n es z x k ≤ k
  | 0 => Nat.le_refl _
  | k + 1 => by have := cntK_le n es z x k; rw [cntK_succ]; split <;> omega
theorem CntM.yes {n : Int} {es : List Arc} {z : Int} {M : List Int} {k : Nat} (h : CntM n es z M k) (hk : k < n.toNat) (hz : has z k = false) {l : Int} (hl : l = ((labZ n es z k : Nat) : Int)) (h12 : l < 12) : CntM n es z (M.set l.toNat (M.getD l.toNat 0 + 1)) (k + 1) := by
  refine ⟨by rw [List.length_set]; exact h.1, fun x hx => ?_⟩
  have hf : freeP n.toNat z k = true := freeP_iff.2 ⟨hk, hz⟩
  rw [cntK_succ]
  by_cases e : x = l.toNat
  · subst e
    rw [getD_set_self _ _ _ _ (by rw [h.1]; omega), h.2 _ hx, if_pos (by unfold labP; rw [hf, decide_eq_true (by omega)]; rfl)]
    simp
  · rw [getD_set_ne _ _ _ _ _ (Ne.symm e), h.2 x hx, if_neg (by unfold labP; rw [decide_eq_false (by omega)]; simp)]
    simp
theorem CntM.no {n : Int} {es : List Arc} {z : Int} {M : List Int} {k : Nat} (h : CntM n es z M k) (hz : has z k = true) : CntM n es z M (k + 1) :=
  ⟨h.1, fun x hx => by
    rw [cntK_succ, if_neg (by unfold labP freeP; rw [hz]; simp)]
    exact h.2 x hx⟩
theorem lit12 {M : List Int} {i : Nat} (hi : i < 12) : [M.getD 0 0, M.getD 1 0, M.getD 2 0, M.getD 3 0, M.getD 4 0, M.getD 5 0, M.getD 6 0, M.getD 7 0, M.getD 8 0, M.getD 9 0, M.getD 10 0, M.getD 11 0].getD i 0 = M.getD i 0 := by
  match i, hi with
  | 0, _ => rfl
  | 1, _ => rfl
  | 2, _ => rfl
  | 3, _ => rfl
  | 4, _ => rfl
  | 5, _ => rfl
  | 6, _ => rfl
  | 7, _ => rfl
  | 8, _ => rfl
  | 9, _ => rfl
  | 10, _ => rfl
  | 11, _ => rfl
def sumOdd (n : Int) (es : List Arc) (z : Int) (i : Nat) : Nat := sumN (fun x => cntK n es z x n.toNat % 2) i
theorem sumOdd_step (n : Int) (es : List Arc) (z : Int) (i : Nat) : ((sumOdd n es z (i + 1) : Nat) : Int) = ((sumOdd n es z i : Nat) : Int) + Int.tmod ((cntK n es z i n.toNat : Nat) : Int) 2 := by
  have h : sumOdd n es z (i + 1) = sumOdd n es z i + cntK n es z i n.toNat % 2 := rfl
  rw [h, Int.tmod_eq_emod_of_nonneg (by omega)]
  omega
theorem sumOdd_le (n : Int) (es : List Arc) (z : Int) : ∀ i, sumOdd n es z i ≤ i
  | 0 => Nat.le_refl _
  | i + 1 => by
    have := sumOdd_le n es z i
    have h : sumOdd n es z (i + 1) = sumOdd n es z i + cntK n es z i n.toNat % 2 := rfl
    omega
theorem sumOdd_more {n : Int} {es : List Arc} {z : Int} (hA : InR n es) (h0 : 0 ≤ n) (h9 : n ≤ 9) : ∀ i, n.toNat ≤ i → sumOdd n es z i = oddZ n es z
  | 0, h => by rw [show 0 = n.toNat by omega]; rfl
  | i + 1, h => by
    by_cases e : n.toNat = i + 1
    · rw [← e]; rfl
    · have ih := sumOdd_more (z := z) hA h0 h9 i (by omega)
      have hs : sumOdd n es z (i + 1) = sumOdd n es z i + cntK n es z i n.toNat % 2 := rfl
      have hc : cntK n es z i n.toNat = 0 := cntP_zero fun v hv => by
        have := (labQ (es := es) z hA h0 (by omega)).lt v hv
        unfold labP; rw [decide_eq_false (by omega)]; simp
      omega
theorem join_lab {n : Int} {es : List Arc} {z : Int} (hA : InR n es) (h0 : 0 ≤ n) (h9 : n ≤ 9) {i : Nat} (hi : i < n.toNat) : (joinedOf n (keptZ es z)).getD i 0 = ((labZ n es z i : Nat) : Int) := by
  have := root_at (n := n) (es := keptZ es z) (by omega) (kept_inR hA z) (v := i) (by omega)
  unfold labZ
  have e : (joinedOf n (keptZ es z)).getD i 0 = rootOf n (keptZ es z) i := rfl
  rw [e]; omega
theorem cntK_yes {n : Int} {es : List Arc} {z : Int} {x i : Nat} (hi : i < n.toNat) (hl : ((labZ n es z i : Nat) : Int) = x) (hz : has z i = false) : cntK n es z x (i + 1) = cntK n es z x i + 1 := by
  rw [cntK_succ, if_pos]
  unfold labP; rw [freeP_iff.2 ⟨hi, hz⟩, decide_eq_true (by omega)]; rfl
theorem cntK_no {n : Int} {es : List Arc} {z : Int} {x i : Nat} (hn : ¬ (((labZ n es z i : Nat) : Int) = x ∧ has z i = false)) : cntK n es z x (i + 1) = cntK n es z x i := by
  rw [cntK_succ, if_neg fun q => ?_]
  · rfl
  · unfold labP at q
    rw [Bool.and_eq_true, decide_eq_true_eq] at q
    exact hn ⟨by omega, (freeP_iff.1 q.1).2⟩
end Go.Ab
namespace Go.Ab
def barV (n : Int) (es : List Arc) : Int := if poolErr n es = 0 then barOf n es else 0
theorem many_le9 (z : Int) : many z 9 ≤ 9 := many_le z 9
theorem oddZ_le (n : Int) (es : List Arc) (z : Int) : oddZ n es z ≤ n.toNat := sumOdd_le n es z n.toNat
end Go.Ab
namespace Go.Ab
theorem many_step9 {z : Int} (hz : 0 ≤ z) (k : Nat) : ((many z (k + 1) : Nat) : Int) = ((many z k : Nat) : Int) + iand (z / 2 ^ k) 1 := by
  rw [bit_9 hz]
  simp only [many]
  split <;> omega
theorem many_16 {z : Int} (h0 : 0 ≤ z) (h1 : z < 512) : many z 16 = many z 9 := many_cut9 (fun v hv => has_lt (n := 9) h0 (by omega) hv) (by omega)
end Go.Ab
