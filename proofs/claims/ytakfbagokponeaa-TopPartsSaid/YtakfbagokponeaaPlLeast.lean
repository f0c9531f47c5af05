/- Of the least that parts a graph at all (STOER, WAGNER): the plain laws. -/
import Derived.Test.YtakfbagokponeaaPlPTree
import Derived.Test.YtakfbagokponeaaPlA
namespace Go.Ab
def hsum (W : Nat → Nat → Int) : List Nat → Nat → Int
  | [], _ => 0
  | v :: S, x => W v x + hsum W S x
def crs (W : Nat → Nat → Int) (p : Nat → Bool) : List Nat → Nat → Int
  | [], _ => 0
  | v :: S, x => (if p v = p x then 0 else W v x) + crs W p S x
def sms (W : Nat → Nat → Int) (p : Nat → Bool) : List Nat → Nat → Int
  | [], _ => 0
  | v :: S, x => (if p v = p x then W v x else 0) + sms W p S x
def ccs (W : Nat → Nat → Int) (p : Nat → Bool) : List Nat → Int
  | [] => 0
  | v :: S => crs W p S v + ccs W p S
section
variable {W : Nat → Nat → Int} {p : Nat → Bool}
theorem hsum_split (x : Nat) : ∀ S : List Nat, hsum W S x = sms W p S x + crs W p S x
  | [] => rfl
  | v :: S => by
    have := hsum_split x S
    simp only [hsum, sms, crs]
    split <;> omega
theorem crs_nonneg {x : Nat} : ∀ {S : List Nat}, (∀ v ∈ S, 0 ≤ W v x) → 0 ≤ crs W p S x
  | [], _ => by simp [crs]
  | v :: S, h => by
    have h1 := h v List.mem_cons_self
    have h2 := crs_nonneg (fun u hu => h u (List.mem_cons_of_mem _ hu))
    simp only [crs]
    split <;> omega
theorem hsum_in {x : Nat} {B : Int} : ∀ {S : List Nat}, (∀ v ∈ S, 0 ≤ W v x ∧ W v x ≤ B) → 0 ≤ hsum W S x ∧ hsum W S x ≤ B * (S.length : Int)
  | [], _ => by simp [hsum]
  | v :: S, h => by
    have h1 := h v List.mem_cons_self
    have h2 := hsum_in (fun u hu => h u (List.mem_cons_of_mem _ hu))
    simp only [hsum, List.length_cons]
    have e : B * ((S.length + 1 : Nat) : Int) = B * (S.length : Int) + B := by rw [show ((S.length + 1 : Nat) : Int) = (S.length : Int) + 1 by omega, Int.mul_add, Int.mul_one]
    rw [e]
    omega
end
structure Ord (N : List Int) (W : Nat → Nat → Int) (hang : List Int) (done : List Bool) (S : List Nat) : Prop where
  hl : hang.length = 12
  dl : done.length = 12
  nd : S.Nodup
  mem : ∀ v ∈ S, (v : Int) ∈ N
  don : ∀ v, v < 12 → (done.getD v false = true ↔ v ∈ S)
  hang_ : ∀ x : Nat, (x : Int) ∈ N → x ∉ S → hang.getD x 0 = hsum W S x
  last : ∀ l S', S = l :: S' → hang.getD l 0 = hsum W S' l
  K : ∀ (p : Nat → Bool) l S', S = l :: S' → ∀ x : Nat, (x : Int) ∈ N → x ∉ S → p x ≠ p l → sms W p S x ≤ ccs W p S
  F : ∀ (p : Nat → Bool) l a S', S = l :: a :: S' → p l ≠ p a → hang.getD l 0 ≤ ccs W p S
theorem Ord.start {N : List Int} {W : Nat → Nat → Int} {hang : List Int} {done : List Bool} (h1 : hang.length = 12) (h2 : done.length = 12) (h3 : ∀ x, hang.getD x 0 = 0) (h4 : ∀ x, done.getD x false = false) : Ord N W hang done [] where
  hl := h1
  dl := h2
  nd := List.nodup_nil
  mem v hv := by cases hv
  don v hv := by rw [h4]; simp
  hang_ x _ _ := h3 x
  last l S' h := by cases h
  K p l S' h := by cases h
  F p l a S' h := by cases h
def BestIn (N : List Int) (hang : List Int) (done : List Bool) (i : Nat) (b : Int) : Prop :=
  (b = -1 ∧ ∀ j, j < i → done.getD (N.getD j 0).toNat false = true) ∨
  (b ∈ N ∧ done.getD b.toNat false = false ∧ ∀ j, j < i → done.getD (N.getD j 0).toNat false = false → hang.getD (N.getD j 0).toNat 0 ≤ hang.getD b.toNat 0)
theorem BestIn.take {N hang : List Int} {done : List Bool} {i : Nat} {b : Int} (h : BestIn N hang done i b) (hi : i < N.length) (hd : done.getD (N.getD i 0).toNat false = false) (hb : b < 0 ∨ hang.getD b.toNat 0 < hang.getD (N.getD i 0).toNat 0) (hr : ∀ x ∈ N, 0 ≤ x) :
    BestIn N hang done (i + 1) (N.getD i 0) := by
  refine .inr ⟨getD_mem hi, hd, fun j hj hdj => ?_⟩
  rcases Nat.lt_succ_iff_lt_or_eq.1 hj with hj | rfl
  · rcases h with ⟨_, h⟩ | ⟨h1, _, h⟩
    · rw [h j hj] at hdj; cases hdj
    · have := h j hj hdj
      have := hr b h1
      omega
  · exact Int.le_refl _
theorem BestIn.skip {N hang : List Int} {done : List Bool} {i : Nat} {b : Int} (h : BestIn N hang done i b) (hc : done.getD (N.getD i 0).toNat false = true ∨ (0 ≤ b ∧ hang.getD (N.getD i 0).toNat 0 ≤ hang.getD b.toNat 0)) : BestIn N hang done (i + 1) b := by
  rcases h with ⟨h1, h⟩ | ⟨h1, h2, h⟩
  · refine .inl ⟨h1, fun j hj => ?_⟩
    rcases Nat.lt_succ_iff_lt_or_eq.1 hj with hj | rfl
    · exact h j hj
    · rcases hc with hc | hc
      · exact hc
      · omega
  · refine .inr ⟨h1, h2, fun j hj hd => ?_⟩
    rcases Nat.lt_succ_iff_lt_or_eq.1 hj with hj | rfl
    · exact h j hj hd
    · rcases hc with hc | hc
      · rw [hc] at hd; cases hd
      · exact hc.2
theorem BestIn.found {N : List Int} {W : Nat → Nat → Int} {hang : List Int} {done : List Bool} {S : List Nat} {b : Int} (h : BestIn N hang done N.length b) (ho : Ord N W hang done S) (hn : N.Nodup) (hr : ∀ x ∈ N, 0 ≤ x ∧ x < 12) (hS : S.length < N.length) :
    b ∈ N ∧ b.toNat ∉ S ∧ ∀ x : Nat, (x : Int) ∈ N → x ∉ S → hang.getD x 0 ≤ hang.getD b.toNat 0 := by
  rcases h with ⟨h1, h⟩ | ⟨h1, h2, h⟩
  · exfalso
    have := nodup_len (l := N) (m := S.map fun (v : Nat) => (v : Int)) hn (fun x hx => by
      obtain ⟨j, hj, e⟩ := mem_getD 0 hx
      have h3 := h j hj
      rw [e] at h3
      have hx2 := hr x hx
      exact List.mem_map.2 ⟨x.toNat, (ho.don _ (by omega)).1 h3, by omega⟩)
    simp only [List.length_map] at this
    omega
  · have hb := hr b h1
    refine ⟨h1, fun hc => ?_, fun x hx hS => ?_⟩
    · rw [(ho.don _ (by omega)).2 hc] at h2; cases h2
    · obtain ⟨j, hj, e⟩ := mem_getD 0 hx
      have hx2 := hr x hx
      have := h j hj
      rw [e, Int.toNat_natCast] at this
      refine this ?_
      cases hd : done.getD x false
      · rfl
      · exact absurd ((ho.don _ (by omega)).1 hd) hS
def Hung (N : List Int) (W : Nat → Nat → Int) (hang : List Int) (done : List Bool) (b : Nat) (j : Nat) (h2 : List Int) : Prop :=
  h2.length = 12 ∧ ∀ x : Nat, h2.getD x 0 = if done.getD x false = false ∧ ∃ i, i < j ∧ N.getD i 0 = (x : Int) then hang.getD x 0 + W b x else hang.getD x 0
theorem Hung.start {N : List Int} {W : Nat → Nat → Int} {hang : List Int} {done : List Bool} {b : Nat} (h : hang.length = 12) : Hung N W hang done b 0 hang :=
  ⟨h, fun x => by rw [if_neg (by rintro ⟨_, i, hi, _⟩; omega)]⟩
theorem Hung.fresh {N : List Int} {W : Nat → Nat → Int} {hang : List Int} {done : List Bool} {b j : Nat} {h2 : List Int} (h : Hung N W hang done b j h2) (hn : N.Nodup) (hj : j < N.length) (hr : ∀ x ∈ N, 0 ≤ x ∧ x < 12) : h2.getD (N.getD j 0).toNat 0 = hang.getD (N.getD j 0).toNat 0 := by
  have hx := hr _ (getD_mem (d := 0) hj)
  rw [h.2, if_neg]
  rintro ⟨_, i, hi, e⟩
  rw [Int.toNat_of_nonneg hx.1] at e
  rw [getD_lt _ _ _ hj, getD_lt _ _ _ (by omega)] at e
  exact List.pairwise_iff_getElem.1 hn i j (by omega) hj hi e
theorem Hung.take {N : List Int} {W : Nat → Nat → Int} {hang : List Int} {done : List Bool} {b j : Nat} {h2 : List Int} (h : Hung N W hang done b j h2) (hn : N.Nodup) (hj : j < N.length) (hr : ∀ x ∈ N, 0 ≤ x ∧ x < 12) (hd : done.getD (N.getD j 0).toNat false = false) :
    Hung N W hang done b (j + 1) (h2.set (N.getD j 0).toNat (h2.getD (N.getD j 0).toNat 0 + W b (N.getD j 0).toNat)) := by
  have hf := h.fresh hn hj hr
  have hx := hr _ (getD_mem (d := 0) hj)
  refine ⟨by rw [List.length_set]; exact h.1, fun x => ?_⟩
  by_cases e : (N.getD j 0).toNat = x
  · subst e
    rw [getD_set_self _ _ _ _ (by rw [h.1]; omega), hf, if_pos ⟨hd, j, by omega, by omega⟩]
  · rw [getD_set_ne _ _ _ _ _ e, h.2]
    have : (∃ i, i < j ∧ N.getD i 0 = (x : Int)) ↔ ∃ i, i < j + 1 ∧ N.getD i 0 = (x : Int) := by
      constructor
      · rintro ⟨i, hi, q⟩; exact ⟨i, by omega, q⟩
      · rintro ⟨i, hi, q⟩
        rcases Nat.lt_succ_iff_lt_or_eq.1 hi with hi | rfl
        · exact ⟨i, hi, q⟩
        · exact absurd (by rw [q]; simp) e
    simp only [this]
theorem Hung.skip {N : List Int} {W : Nat → Nat → Int} {hang : List Int} {done : List Bool} {b j : Nat} {h2 : List Int} (h : Hung N W hang done b j h2) (hj : j < N.length) (hd : done.getD (N.getD j 0).toNat false = true) : Hung N W hang done b (j + 1) h2 := by
  refine ⟨h.1, fun x => ?_⟩
  rw [h.2]
  have : (done.getD x false = false ∧ ∃ i, i < j ∧ N.getD i 0 = (x : Int)) ↔ (done.getD x false = false ∧ ∃ i, i < j + 1 ∧ N.getD i 0 = (x : Int)) := by
    constructor
    · rintro ⟨a, i, hi, q⟩; exact ⟨a, i, by omega, q⟩
    · rintro ⟨a, i, hi, q⟩
      rcases Nat.lt_succ_iff_lt_or_eq.1 hi with hi | rfl
      · exact ⟨a, i, hi, q⟩
      · rw [q] at hd; simp only [Int.toNat_natCast] at hd; rw [hd] at a; cases a
  simp only [this]
theorem Ord.step {N : List Int} {W : Nat → Nat → Int} {hang h2 : List Int} {done : List Bool} {S : List Nat} {b : Int} (h : Ord N W hang done S) (hr : ∀ x ∈ N, 0 ≤ x ∧ x < 12) (hW : ∀ a c : Nat, (a : Int) ∈ N → (c : Int) ∈ N → 0 ≤ W a c)
    (hb : b ∈ N ∧ b.toNat ∉ S ∧ ∀ x : Nat, (x : Int) ∈ N → x ∉ S → hang.getD x 0 ≤ hang.getD b.toNat 0) (hh : Hung N W hang (done.set b.toNat true) b.toNat N.length h2) : Ord N W h2 (done.set b.toNat true) (b.toNat :: S) := by
  obtain ⟨b1, b2, b3⟩ := hb
  have hb0 := hr b b1
  have hbc : ((b.toNat : Nat) : Int) = b := by omega
  have hdn : ∀ v, v < 12 → ((done.set b.toNat true).getD v false = true ↔ v ∈ b.toNat :: S) := fun v hv => by
    by_cases e : b.toNat = v
    · subst e; rw [getD_set_self _ _ _ _ (by rw [h.dl]; omega)]; simp
    · rw [getD_set_ne _ _ _ _ _ e, h.don v hv]; simp [Ne.symm e]
  have hlast : h2.getD b.toNat 0 = hsum W S b.toNat := by
    rw [hh.2, if_neg, h.hang_ _ (by rw [hbc]; exact b1) b2]
    rintro ⟨q, _⟩
    rw [getD_set_self _ _ _ _ (by rw [h.dl]; omega)] at q; cases q
  have hcr : ∀ (p : Nat → Bool) (x : Nat), (x : Int) ∈ N → 0 ≤ crs W p S x := fun p x hx => crs_nonneg fun v hv => hW v x (h.mem v hv) hx
  have hbN : ((b.toNat : Nat) : Int) ∈ N := by rw [hbc]; exact b1
  refine ⟨hh.1, by rw [List.length_set]; exact h.dl, List.nodup_cons.2 ⟨b2, h.nd⟩, fun v hv => ?_, hdn, fun x hx hxS => ?_, fun l S' e => ?_, fun p l S' e x hx hxS hne => ?_, fun p l a S' e hne => ?_⟩
  · rcases List.mem_cons.1 hv with rfl | hv
    · exact hbN
    · exact h.mem v hv
  · have hx2 := hr _ hx
    have hxS' : x ∉ S := fun q => hxS (List.mem_cons_of_mem _ q)
    rw [hh.2, if_pos, h.hang_ x hx hxS', hsum]
    · omega
    · refine ⟨?_, ?_⟩
      · cases hd : (done.set b.toNat true).getD x false
        · rfl
        · exact absurd ((hdn x (by omega)).1 hd) hxS
      · obtain ⟨j, hj, e⟩ := mem_getD 0 hx
        exact ⟨j, hj, e⟩
  · cases e; exact hlast
  · cases e
    have hxS' : x ∉ S := fun q => hxS (List.mem_cons_of_mem _ q)
    have e1 : sms W p (b.toNat :: S) x = sms W p S x := by simp only [sms]; rw [if_neg (fun q => hne q.symm)]; omega
    have e2 : ccs W p (b.toNat :: S) = crs W p S b.toNat + ccs W p S := rfl
    rw [e1, e2]
    have c1 := hcr p b.toNat hbN
    have c2 := hcr p x hx
    have c3 := hsum_split (W := W) (p := p) x S
    have c4 := hsum_split (W := W) (p := p) b.toNat S
    have c5 := b3 x hx hxS'
    rw [h.hang_ x hx hxS', h.hang_ _ hbN b2] at c5
    cases hS : S with
    | nil => simp [sms, crs, ccs]
    | cons l' S'' =>
      rw [← hS]
      by_cases hl : p b.toNat = p l'
      · have := h.K p l' S'' hS x hx hxS' (by rw [← hl]; exact hne)
        omega
      · have := h.K p l' S'' hS b.toNat hbN b2 hl
        omega
  · cases e
    have e2 : ccs W p (b.toNat :: a :: S') = crs W p (a :: S') b.toNat + ccs W p (a :: S') := rfl
    rw [e2, hlast]
    have c4 := hsum_split (W := W) (p := p) b.toNat (a :: S')
    have := h.K p a S' rfl b.toNat hbN b2 hne
    omega
theorem Ord.hang_in {N : List Int} {W : Nat → Nat → Int} {hang : List Int} {done : List Bool} {S : List Nat} {B : Int} (h : Ord N W hang done S) (hW : ∀ a c : Nat, (a : Int) ∈ N → (c : Int) ∈ N → 0 ≤ W a c ∧ W a c ≤ B) {x : Nat} (hx : (x : Int) ∈ N) (hxS : x ∉ S) : 0 ≤ hang.getD x 0 ∧ hang.getD x 0 ≤ B * (S.length : Int) := by
  rw [h.hang_ x hx hxS]
  exact hsum_in fun v hv => hW v x (h.mem v hv) hx
end Go.Ab
