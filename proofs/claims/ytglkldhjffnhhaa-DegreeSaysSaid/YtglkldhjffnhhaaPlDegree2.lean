/- Of graphs by how many stand at each node: one node after the other: the plain laws. -/
import Derived.Test.YtglkldhjffnhhaaPlDegree
namespace Go.Ab
def othersOf (at_ n : Nat) : List Int := (idsOf n).drop (at_ + 1)
theorem ids_drop_mem {n k : Nat} {x : Int} : x ∈ (idsOf n).drop k ↔ (k : Int) ≤ x ∧ x < n := by
  rw [List.mem_iff_getElem]
  constructor
  · rintro ⟨i, hi, rfl⟩
    rw [List.length_drop, ids_len] at hi
    rw [List.getElem_drop]
    simp [idsOf]; omega
  · rintro ⟨h1, h2⟩
    refine ⟨x.toNat - k, by rw [List.length_drop, ids_len]; omega, ?_⟩
    rw [List.getElem_drop]
    simp [idsOf]; omega
theorem others_mem {at_ n : Nat} {x : Int} : x ∈ othersOf at_ n ↔ (at_ : Int) < x ∧ x < n := by
  unfold othersOf
  rw [ids_drop_mem]; omega
theorem others_len (at_ n : Nat) : (othersOf at_ n).length = n - (at_ + 1) := by unfold othersOf; rw [List.length_drop, ids_len]
theorem others_at {at_ n j : Nat} (h : at_ + 1 + j < n) : (othersOf at_ n).getD j 0 = ((at_ + 1 + j : Nat) : Int) := by
  unfold othersOf
  rw [List.getD_eq_getElem?_getD, List.getElem?_drop, ← List.getD_eq_getElem?_getD, ids_at h]
theorem others_nodup (at_ n : Nat) : (othersOf at_ n).Nodup := (ids_nodup n).sublist (List.drop_sublist _ _)
def ordD (X : List Int) (at_ : Nat) : List Int := (othersOf at_ X.length).mergeSort (leG X)
theorem ordD_perm (X : List Int) (at_ : Nat) : (ordD X at_).Perm (othersOf at_ X.length) := List.mergeSort_perm _ _
theorem ordD_len (X : List Int) (at_ : Nat) : (ordD X at_).length = X.length - (at_ + 1) := by rw [(ordD_perm X at_).length_eq, others_len]
theorem ordD_le (X : List Int) (at_ : Nat) : (ordD X at_).Pairwise (fun a b => leG X a b = true) := List.pairwise_mergeSort (le := leG X) (fun a b c h1 h2 => leG_trans h1 h2) (leG_total X) _
theorem ordD_is {X e : List Int} {at_ : Nat} (hp : e.Perm (othersOf at_ X.length)) (hs : e.Pairwise (fun a b => leG X a b = true)) : e = ordD X at_ :=
  (hp.trans (ordD_perm X at_).symm).eq_of_pairwise (fun _ _ _ _ h1 h2 => leG_anti h1 h2) hs (ordD_le X at_)
theorem ordD_nodup (X : List Int) (at_ : Nat) : (ordD X at_).Nodup := (others_nodup _ _).perm (ordD_perm X at_).symm
theorem ordD_mem {X : List Int} {at_ : Nat} {x : Int} : x ∈ ordD X at_ ↔ (at_ : Int) < x ∧ x < X.length := by rw [(ordD_perm X at_).mem_iff, others_mem]
theorem ordD_at {X : List Int} {at_ j : Nat} (h : j < (ordD X at_).length) : (at_ : Int) < (ordD X at_).getD j 0 ∧ (ordD X at_).getD j 0 < X.length := ordD_mem.1 (getD_mem h)
theorem nodup_inj {l : List Int} (hn : l.Nodup) {i j : Nat} (hi : i < l.length) (hj : j < l.length) (h : l.getD i 0 = l.getD j 0) : i = j := by
  have h' : l[i]'(by omega) = l[j]'(by omega) := by
    simpa [List.getD_eq_getElem?_getD, List.getElem?_eq_getElem hi, List.getElem?_eq_getElem hj] using h
  rcases Nat.lt_trichotomy i j with q | q | q
  · exact absurd h' (List.pairwise_iff_getElem.1 hn i j (by omega) (by omega) q)
  · exact q
  · exact absurd h'.symm (List.pairwise_iff_getElem.1 hn j i (by omega) (by omega) q)
theorem not_take {l : List Int} (hn : l.Nodup) {i j : Nat} (hj : j < l.length) (h : i ≤ j) : l.getD j 0 ∉ l.take i := by
  intro q
  obtain ⟨k, k1, k2, k3⟩ := mem_take_iff.1 q
  have := nodup_inj hn k2 hj k3
  omega
def pickD (X : List Int) (at_ : Nat) : List Int := (ordD X at_).take (X.getD at_ 0).toNat
def badD (X : List Int) (at_ : Nat) : Bool := decide (((X.length - (at_ + 1) : Nat) : Int) < X.getD at_ 0) || (pickD X at_).any fun k => decide (X.getD k.toNat 0 ≤ 0)
def arcsD (at_ : Nat) (es : List Int) : List Arc := es.map fun k => ⟨(at_ : Int), k, 0⟩
theorem arcsD_len (at_ : Nat) (es : List Int) : (arcsD at_ es).length = es.length := by simp [arcsD]
def standGo : Nat → Nat → List Int → List Arc → Option (List Arc)
  | 0, _, _, acc => some acc
  | m + 1, at_, X, acc => if badD X at_ = true then none else standGo m (at_ + 1) (lessOf X (pickD X at_)) (acc ++ arcsD at_ (pickD X at_))
theorem pick_in {X : List Int} {at_ : Nat} {x : Int} (h : x ∈ pickD X at_) : (at_ : Int) < x ∧ x < X.length := ordD_mem.1 (List.mem_of_mem_take h)
theorem badD_no {X : List Int} {at_ : Nat} (h : badD X at_ = false) : X.getD at_ 0 ≤ ((X.length - (at_ + 1) : Nat) : Int) ∧ ∀ x ∈ pickD X at_, 0 < X.getD x.toNat 0 := by
  unfold badD at h
  rw [Bool.or_eq_false_iff, decide_eq_false_iff_not] at h
  exact ⟨by omega, fun x hx => by have := of_decide_eq_false (any_no h.2 x hx); omega⟩
def Vat (at_ : Nat) : Nat → Bool := fun u => decide (at_ ≤ u)
def pickN (X : List Int) (at_ : Nat) : Nat → Bool := fun u => decide ((u : Int) ∈ pickD X at_)
theorem off_at_ {at_ u : Nat} : offV (Vat at_) at_ u = Vat (at_ + 1) u := by
  unfold offV Vat
  by_cases h : at_ + 1 ≤ u
  · rw [decide_eq_true h, decide_eq_true (by omega), decide_eq_false (by omega)]; rfl
  · rw [decide_eq_false h]
    by_cases e : u = at_
    · subst e; simp
    · rw [decide_eq_false (by omega)]; rfl
theorem lsum_split (f : Int → Int) (n k : Nat) (hk : k ≤ n) (h0 : ∀ x : Int, 0 ≤ x → x < k → f x = 0) : lsum f (idsOf n) = lsum f ((idsOf n).drop k) := by
  have h := lsum_append f ((idsOf n).take k) ((idsOf n).drop k)
  rw [List.take_append_drop] at h
  rw [h, lsum_zero, Int.zero_add]
  intro x hx
  obtain ⟨i, i1, i2, rfl⟩ := mem_take_iff.1 hx
  rw [ids_len] at i2
  rw [ids_at i2]
  exact h0 _ (by omega) (by omega)
theorem card_ordD {X : List Int} {at_ : Nat} (h : at_ < X.length) (N : Nat → Bool) : cardV X.length (offV (Vat at_) at_) N = ((ordD X at_).countP fun x => N x.toNat : Nat) := by
  have e1 : cardV X.length (offV (Vat at_) at_) N = lsum (fun x : Int => b2i (Vat (at_ + 1) x.toNat && N x.toNat)) (idsOf X.length) := by
    rw [lsum_ids]
    unfold cardV card
    exact sum_congr fun u _ => by dsimp only; rw [off_at_, Int.toNat_natCast]
  rw [e1, lsum_split _ _ (at_ + 1) (by omega) (fun x x0 x1 => by unfold Vat; rw [decide_eq_false (by omega)]; rfl), ← lsum_b2i]
  have e2 : (idsOf X.length).drop (at_ + 1) = othersOf at_ X.length := rfl
  rw [e2, ← lsum_perm (ordD_perm X at_)]
  exact lsum_congr fun x hx => by
    have := ordD_mem.1 hx
    unfold Vat; rw [decide_eq_true (by omega)]; rfl
theorem count_take {l : List Int} {p : Int → Bool} {k : Nat} (hk : k ≤ l.length) (h1 : ∀ x ∈ l.take k, p x = true) (h2 : ∀ x ∈ l.drop k, p x = false) : l.countP p = k := by
  conv => lhs; rw [← List.take_append_drop k l]
  rw [List.countP_append, List.countP_eq_length.2 h1, List.countP_eq_zero.2 fun x hx => by rw [h2 x hx]; decide, List.length_take]
  omega
theorem drop_not_take {l : List Int} (hn : l.Nodup) {k : Nat} {x : Int} (h : x ∈ l.drop k) : x ∉ l.take k := fun q => by
  rw [← List.take_append_drop k l] at hn
  exact (List.nodup_append.1 hn).2.2 x q x h rfl
theorem pick_laid {X : List Int} {at_ : Nat} (h : at_ < X.length) (h0 : 0 ≤ X.getD at_ 0) (hb : badD X at_ = false) : Laid X.length (fun u => X.getD u 0) (Vat at_) (pickN X at_) at_ := by
  obtain ⟨b1, b2⟩ := badD_no hb
  have hl := ordD_len X at_
  have hin : ∀ u, pickN X at_ u = true → (at_ : Int) < u ∧ (u : Int) < X.length := fun u hu => pick_in (of_decide_eq_true hu)
  refine ⟨h, decide_eq_true (Nat.le_refl _), fun u _ hN => by rw [off_at_]; have := hin u hN; exact decide_eq_true (by omega), ?_, fun u w hu hw hN hV hNw => ?_⟩
  · rw [card_ordD h, count_take (k := (X.getD at_ 0).toNat) (by omega)]
    · omega
    · intro x hx
      have := ordD_mem.1 (List.mem_of_mem_take hx)
      unfold pickN
      rw [Int.toNat_of_nonneg (by omega)]
      exact decide_eq_true hx
    · intro x hx
      have := ordD_mem.1 (List.mem_of_mem_drop hx)
      unfold pickN
      rw [Int.toNat_of_nonneg (by omega)]
      exact decide_eq_false (drop_not_take (ordD_nodup X at_) hx)
  · rw [off_at_] at hV
    have hV := of_decide_eq_true hV
    have hN := of_decide_eq_true hN
    have hNw := of_decide_eq_false hNw
    have hwm : (w : Int) ∈ ordD X at_ := ordD_mem.2 ⟨by omega, by omega⟩
    have hle := ordD_le X at_
    rw [← List.take_append_drop (X.getD at_ 0).toNat (ordD X at_)] at hle hwm
    rcases List.mem_append.1 hwm with q | q
    · exact absurd q hNw
    · have := of_decide_eq_true ((List.pairwise_append.1 hle).2.2 _ hN _ q)
      rw [Int.toNat_natCast, Int.toNat_natCast] at this
      show X.getD w 0 ≤ X.getD u 0
      omega
theorem EG.congr {n : Nat} {d d' : Nat → Int} {V V' : Nat → Bool} (h : EG n d V) (hd : ∀ u, u < n → d u = d' u) (hV : ∀ u, u < n → V u = V' u) : EG n d' V' := fun S => by
  have h1 := h S
  have e1 : cardV n V S = cardV n V' S := sum_congr fun u hu => by dsimp only; rw [hV u hu]
  unfold egF egG at h1 ⊢
  rw [← e1, ← sum_congr (f := egAt d V S (cardV n V S)) fun u hu => by unfold egAt; rw [hV u hu, hd u hu]]
  exact h1
theorem sumV_congr {n : Nat} {d d' : Nat → Int} {V V' : Nat → Bool} (hd : ∀ u, u < n → d u = d' u) (hV : ∀ u, u < n → V u = V' u) : sumV n d V = sumV n d' V' := sum_congr fun u hu => by rw [hV u hu, hd u hu]
theorem less_pick {X : List Int} {at_ u : Nat} (hu : u < X.length) : lessN (fun u => X.getD u 0) (pickN X at_) u = (lessOf X (pickD X at_)).getD u 0 := by
  rw [less_at hu]
  unfold lessN pickN b2i
  simp only [decide_eq_true_eq]
theorem stand_iff : ∀ {m at_ : Nat} {X : List Int} {acc : List Arc}, at_ + m = X.length → (∀ u, at_ ≤ u → u < X.length → 0 ≤ X.getD u 0) →
    ((standGo m at_ X acc).isSome = true ↔ EG X.length (fun u => X.getD u 0) (Vat at_) ∧ sumV X.length (fun u => X.getD u 0) (Vat at_) % 2 = 0)
  | 0, at_, X, acc, hm, _ => by
    have hV : ∀ u, u < X.length → Vat at_ u = false := fun u hu => decide_eq_false (by omega)
    refine ⟨fun _ => ⟨EG.none hV, ?_⟩, fun _ => rfl⟩
    have : sumV X.length (fun u => X.getD u 0) (Vat at_) = 0 := sum_zero fun u hu => by rw [hV u hu]; rfl
    omega
  | m + 1, at_, X, acc, hm, h0 => by
    have hat : at_ < X.length := by omega
    have hl := ordD_len X at_
    rw [standGo]
    cases hb : badD X at_
    · rw [if_neg (by decide)]
      have hL := pick_laid hat (h0 at_ (Nat.le_refl _) hat) hb
      obtain ⟨b1, b2⟩ := badD_no hb
      have ih := stand_iff (m := m) (at_ := at_ + 1) (X := lessOf X (pickD X at_)) (acc := acc ++ arcsD at_ (pickD X at_)) (by rw [less_len]; omega) (fun u u1 u2 => by
        rw [less_len] at u2
        rw [less_at u2]
        have := h0 u (by omega) u2
        by_cases q : (u : Int) ∈ pickD X at_
        · have := b2 _ q
          rw [Int.toNat_natCast] at this
          rw [if_pos q]; omega
        · rw [if_neg q]; omega)
      rw [ih]
      have hs := laid_sum hL
      have hsc : sumV X.length (lessN (fun u => X.getD u 0) (pickN X at_)) (offV (Vat at_) at_) = sumV (lessOf X (pickD X at_)).length (fun u => (lessOf X (pickD X at_)).getD u 0) (Vat (at_ + 1)) := by
        rw [less_len]
        exact sumV_congr (fun u hu => less_pick hu) (fun u _ => off_at_)
      rw [← hsc, hs]
      constructor
      · rintro ⟨e1, e2⟩
        rw [less_len] at e1
        exact ⟨EG.prev hL (e1.congr (fun u hu => (less_pick hu).symm) (fun u _ => off_at_.symm)), by omega⟩
      · rintro ⟨e1, e2⟩
        refine ⟨?_, by omega⟩
        rw [less_len]
        exact (e1.next hL e2).congr (fun u hu => less_pick hu) (fun u _ => off_at_)
    · rw [if_pos rfl]
      refine ⟨fun q => (by cases q), fun ⟨e1, _⟩ => ?_⟩
      exfalso
      have hf := e1.few hat (decide_eq_true (Nat.le_refl _)) (fun u hu hV => h0 u (of_decide_eq_true hV) hu)
      rw [card_ordD hat] at hf
      have hc := List.countP_le_length (p := fun x : Int => decide (0 < X.getD x.toNat 0)) (l := ordD X at_)
      unfold badD at hb
      rw [Bool.or_eq_true] at hb
      rcases hb with q | q
      · have := of_decide_eq_true q
        omega
      · obtain ⟨x, x1, x2⟩ := List.any_eq_true.1 q
        have x2 := of_decide_eq_true x2
        obtain ⟨i, i1, i2, i3⟩ := mem_take_iff.1 x1
        have hd : (ordD X at_).countP (fun x : Int => decide (0 < X.getD x.toNat 0)) ≤ i := by
          conv => lhs; rw [← List.take_append_drop i (ordD X at_)]
          rw [List.countP_append, List.countP_eq_zero (l := (ordD X at_).drop i).2]
          · have := List.countP_le_length (p := fun x : Int => decide (0 < X.getD x.toNat 0)) (l := (ordD X at_).take i)
            rw [List.length_take] at this
            omega
          · intro y hy
            obtain ⟨j, j1, j2⟩ := List.mem_iff_getElem.1 hy
            rw [List.length_drop] at j1
            rw [List.getElem_drop] at j2
            have hyx : X.getD y.toNat 0 ≤ X.getD x.toNat 0 := by
              rw [← i3, getD_lt _ 0 _ i2, ← j2]
              rcases Nat.eq_zero_or_pos j with e | e
              · subst e; exact Int.le_refl _
              · have := of_decide_eq_true (List.pairwise_iff_getElem.1 (ordD_le X at_) i (i + j) i2 (by omega) (by omega))
                omega
            rw [decide_eq_true_eq]; omega
        omega
/-! ### What is tested -/
def degErr (l : List Int) : Int := if 12 < l.length then 2 else if (l.any fun x => decide (x < 0) || decide ((l.length : Int) ≤ x)) = true then 1 else 0
theorem degErr_ok {l : List Int} (h : degErr l = 0) : l.length ≤ 12 ∧ ∀ x ∈ l, 0 ≤ x ∧ x < l.length := by
  unfold degErr at h
  split at h
  · cases h
  split at h
  · cases h
  rename_i h1 h2
  refine ⟨by omega, fun x hx => ?_⟩
  have h3 : (l.any fun x => decide (x < 0) || decide ((l.length : Int) ≤ x)) = false := by simpa using h2
  have := any_no h3 x hx
  rw [Bool.or_eq_false_iff, decide_eq_false_iff_not, decide_eq_false_iff_not] at this
  omega
def standRes (l : List Int) : Option (List Arc) := standGo l.length 0 l []
def canB (l : List Int) : Bool := decide (degErr l = 0) && (standRes l).isSome
theorem sumV_all (l : List Int) : sumV l.length (fun u => l.getD u 0) (Vat 0) = addL (descOf l) := by
  have e : addL (descOf l) = addL l := lsum_perm (desc_perm l)
  rw [e]
  have h := lsum_map (fun x : Int => x) (dOf l) (idsOf l.length)
  rw [self_ids] at h
  unfold addL
  rw [h, lsum_ids]
  exact sum_congr fun u _ => by unfold Vat dOf; rw [decide_eq_true (Nat.zero_le _), if_pos rfl, Int.toNat_natCast]
theorem can_iff {l : List Int} (h0 : ∀ x ∈ l, 0 ≤ x) : (standRes l).isSome = true ↔ (∀ k, k < l.length → egLine l k) ∧ addL (descOf l) % 2 = 0 := by
  unfold standRes
  rw [stand_iff (by omega) (fun u _ hu => h0 _ (getD_mem hu)), sumV_all, eg_lines h0]
  constructor
  · rintro ⟨e1, e2⟩
    exact ⟨e1.congr (fun u _ => by unfold dOf; rw [Int.toNat_natCast]) (fun u _ => decide_eq_true (Nat.zero_le _)), e2⟩
  · rintro ⟨e1, e2⟩
    exact ⟨e1.congr (fun u _ => by unfold dOf; rw [Int.toNat_natCast]) (fun u _ => (decide_eq_true (Nat.zero_le _)).symm), e2⟩
end Go.Ab
