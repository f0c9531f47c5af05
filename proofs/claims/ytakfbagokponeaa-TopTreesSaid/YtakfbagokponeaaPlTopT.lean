/- Of the tree of a code: all that is asked of it. -/
import Derived.Test.YtakfbagokponeaaPlForest
import Derived.Test.YtakfbagokponeaaPlB
namespace Go.Ab
structure DecG (l : List Int) (n : Int) (es : List Arc) : Prop where
  n2 : 2 ≤ n
  n8 : n ≤ 8
  inR : InR n es
  gok : GOk n es (-10000)
  err : graphErr n es (-10000) = 0
  len : (es.length : Int) = n - 1
  tr : Tr n.toNat (fun _ => true) es
  ac : Ac es
  cap : ∀ a ∈ es, a.cap = 0
theorem decG {l : List Int} {n : Int} {es : List Arc} (hD : decErr l = 0) (hn : okI (decErr l) (((l.length : Nat) : Int) + 2) = n) (hes : okL (decErr l) (decT (cntL (l.length + 2) l) l) = es) (h8 : n ≤ 8) : DecG l n es := by
  have hnz : n = ((l.length + 2 : Nat) : Int) := by rw [← hn, okI_ok _ hD]; omega
  have hez : es = decT (cntL (l.length + 2) l) l := by rw [← hes, okL_ok _ hD]
  have hst := lft_start (decErr_ok hD).2
  have hA : InR n es := by rw [hnz, hez]; exact dec_inR hst
  have hE : graphErr n es (-10000) = 0 := by rw [hnz, hez]; exact dec_err hst (by omega) (by omega) (decErr_ok hD).1
  have hJ : joinedOf n es = List.replicate (l.length + 2) 0 := by rw [hnz, hez]; exact dec_zero hst (by omega) (by omega) (fun v _ => cntL_pos)
  have hl : (es.length : Int) = n - 1 := by rw [hez, dec_len]; omega
  exact ⟨by omega, h8, hA, graphErr_ok hE, hE, hl, tr_of (by omega) (by omega) hA hl (fun x hx => by rw [hJ] at hx; exact (List.mem_replicate.1 hx).2), by rw [hez]; exact dec_ac hst, fun a ha => by rw [hez] at ha; exact (dec_in hst a ha).2.2.2⟩
theorem DecG.cnt_ {l : List Int} {n : Int} {es : List Arc} (h : DecG l n es) : cntErr n es = 0 ∧ cntVal n es = 1 := by
  have := h.err; have := h.n8; have := h.n2; have := h.len
  exact ⟨by rw [cntErr, if_neg (by omega), if_neg (by omega)], tree_one (by omega) h.tr⟩
theorem DecG.sides {l : List Int} {n : Int} {es : List Arc} (h : DecG l n es) : sidesErr n es = 0 := by
  have := h.err; have := h.n8
  obtain ⟨c, hc⟩ := Tr.col _ rfl h.tr
  rw [sidesErr, if_neg (by omega), sided_no (by omega) h.inR hc]; rfl
theorem DecG.col {l : List Int} {n : Int} {es : List Arc} (h : DecG l n es) : colErr n es 3 = 0 ∧ cnt 3 es.length n es = 3 * 2 ^ es.length := by
  have := h.err; have := h.n8; have := h.n2; have := h.len
  refine ⟨by rw [colErr, if_neg (by omega), if_neg (by omega), if_neg (by omega)], ?_⟩
  rw [cnt_forest _ rfl (by omega) h.inR h.ac, show n.toNat - es.length = 1 by omega]; rfl
theorem DecG.more_err {l : List Int} {n : Int} {es : List Arc} (h : DecG l n es) {u v : Int} (hu0 : 0 ≤ u) (hu1 : u < n) (hv0 : 0 ≤ v) (hv1 : v < n) : cntErr n (es ++ [⟨u, v, 0⟩]) = 0 := by
  have := h.n8; have := h.n2; have hl := h.len
  have hG : GOk n (es ++ [⟨u, v, 0⟩]) (-10000) := ⟨by omega, by omega, by rw [List.length_append, List.length_singleton]; omega, fun a ha => by
    rw [List.mem_append, List.mem_singleton] at ha
    rcases ha with q | rfl
    · exact h.gok.arc a q
    · exact ⟨hu0, hu1, hv0, hv1, by show (-10000 : Int) ≤ 0; omega, by show (0 : Int) ≤ 10000; omega⟩⟩
  have := hG.err
  rw [cntErr, if_neg (by omega), if_neg (by rw [List.length_append, List.length_singleton]; omega)]
theorem DecG.both {l : List Int} {n : Int} {es : List Arc} (h : DecG l n es) : GOk n (bothA es) (-10000) := by
  have := h.n8; have := h.n2; have hl := h.len
  refine ⟨by omega, by omega, by unfold bothA; rw [List.length_append, List.length_map]; omega, fun a ha => ?_⟩
  rcases mem_both.1 ha with q | ⟨b, q, rfl⟩
  · exact h.gok.arc a q
  · obtain ⟨b1, b2, b3, b4, b5, b6⟩ := h.gok.arc b q
    exact ⟨b3, b4, b1, b2, b5, b6⟩
theorem DecG.farErr_ {l : List Int} {n : Int} {es : List Arc} (h : DecG l n es) {u : Int} (hu0 : 0 ≤ u) (hu1 : u < n) : farErr n (bothA es) u = 0 := by
  have := h.both.err
  rw [farErr, if_neg (by omega), if_neg (by omega)]
theorem DecG.more {l : List Int} {n : Int} {es : List Arc} (h : DecG l n es) {u v : Int} (hu0 : 0 ≤ u) (hu1 : u < n) (hv0 : 0 ≤ v) (hv1 : v < n) :
    (u = v ∧ cntVal n (es ++ [⟨u, v, 0⟩]) = 1) ∨ (u ≠ v ∧ cntVal n (es ++ [⟨u, v, 0⟩]) = (farOf n (bothA es) u).getD v.toNat 0 + 1) := by
  have h8 := h.n8; have h2 := h.n2
  rcases tree_more (c := 0) (by omega) h.tr hu0 hu1 hv0 hv1 with q | ⟨q, d, d1, d2⟩
  · exact .inl q
  · refine .inr ⟨q, ?_⟩
    have hd := d2.dist (by omega) h.inR
    obtain ⟨p, p1, p2, p3⟩ := d2.pot
    obtain ⟨k, k1, k2, k3⟩ := wk_small h.inR.both hu0 hu1 d2.way
    have k4 := pot_walk p3 k3
    rw [d1, farOf_at (by omega), farAt, Int.toNat_of_nonneg hv0, hd, if_neg (by omega)]
theorem back0 {a : Arc} (h : a.cap = 0) : (⟨a.dst, a.src, 0⟩ : Arc) = backA a := by unfold backA; rw [h]
def restI (a m : Int) : Int := if Int.tmod a m < 0 then Int.tmod a m + m else Int.tmod a m
theorem restI_in {a m : Int} (h : 0 < m) : 0 ≤ restI a m ∧ restI a m < m := by
  unfold restI
  have h1 := Int.tmod_lt_of_pos a h
  have h2 := Int.lt_tmod_of_pos a h
  split <;> omega
theorem pow2_7 {i : Nat} (h : i ≤ 7) : 0 ≤ (3 : Int) * 2 ^ i ∧ (3 : Int) * 2 ^ i ≤ 384 := by
  have h2 : ∀ i : Nat, i ≤ 7 → 0 ≤ (3 : Int) * 2 ^ i ∧ (3 : Int) * 2 ^ i ≤ 384 := by decide
  exact h2 i h
end Go.Ab
