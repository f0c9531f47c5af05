/- Of graphs by how many stand at each node: what is tested, and what is made: the plain laws. -/
import Derived.Test.YtglkldhjffnhhaaPlEG
import Derived.Test.YtglkldhjffnhhaaPlGale
namespace Go.Ab
/-! ### Sums over lists -/
def lsum {α : Type} (f : α → Int) : List α → Int
  | [] => 0
  | x :: r => f x + lsum f r
theorem lsum_append {α : Type} (f : α → Int) : ∀ (a b : List α), lsum f (a ++ b) = lsum f a + lsum f b
  | [], b => by simp [lsum]
  | x :: r, b => by rw [List.cons_append, lsum, lsum, lsum_append f r b]; omega
theorem lsum_perm {α : Type} {f : α → Int} {a b : List α} (h : a.Perm b) : lsum f a = lsum f b := by
  induction h with
  | nil => rfl
  | cons x _ ih => rw [lsum, lsum, ih]
  | swap x y l => simp only [lsum]; omega
  | trans _ _ h1 h2 => rw [h1, h2]
theorem lsum_map {α β : Type} (f : β → Int) (g : α → β) : ∀ l : List α, lsum f (l.map g) = lsum (fun x => f (g x)) l
  | [] => rfl
  | x :: r => by rw [List.map_cons, lsum, lsum, lsum_map f g r]
theorem lsum_congr {α : Type} {f g : α → Int} : ∀ {l : List α}, (∀ x ∈ l, f x = g x) → lsum f l = lsum g l
  | [], _ => rfl
  | x :: r, h => by rw [lsum, lsum, h x List.mem_cons_self, lsum_congr fun y hy => h y (List.mem_cons_of_mem _ hy)]
theorem lsum_zero {α : Type} {f : α → Int} {l : List α} (h : ∀ x ∈ l, f x = 0) : lsum f l = 0 := by
  rw [lsum_congr (g := fun _ => 0) h]
  induction l with
  | nil => rfl
  | cons x r ih => rw [lsum, ih fun y hy => h y (List.mem_cons_of_mem _ hy)]; rfl
theorem lsum_add {α : Type} (f g : α → Int) : ∀ l : List α, lsum (fun x => f x + g x) l = lsum f l + lsum g l
  | [] => rfl
  | x :: r => by rw [lsum, lsum, lsum, lsum_add f g r]; omega
theorem lsum_b2i {α : Type} (p : α → Bool) : ∀ l : List α, lsum (fun x => b2i (p x)) l = (l.countP p : Nat)
  | [] => rfl
  | x :: r => by
    rw [lsum, lsum_b2i p r, List.countP_cons]
    cases p x <;> simp [b2i]
    omega
theorem ids_succ (n : Nat) : idsOf (n + 1) = idsOf n ++ [(n : Int)] := by simp [idsOf, List.range_succ]
theorem lsum_ids (f : Int → Int) : ∀ n : Nat, lsum f (idsOf n) = sumTo n fun u => f (u : Int)
  | 0 => rfl
  | n + 1 => by rw [ids_succ, lsum_append, lsum_ids f n, sumTo]; simp [lsum]
def addL (l : List Int) : Int := lsum (fun x => x) l
def addMin (m : Int) (l : List Int) : Int := lsum (fun x => min x m) l
theorem addL_snoc (l : List Int) (x : Int) : addL (l ++ [x]) = addL l + x := by unfold addL; rw [lsum_append]; simp [lsum]
theorem addMin_snoc (m : Int) (l : List Int) (x : Int) : addMin m (l ++ [x]) = addMin m l + min x m := by unfold addMin; rw [lsum_append]; simp [lsum]
/-- the k greatest are no less than any k of them -/
theorem top_sum {α : Type} {g : α → Int} {p : α → Bool} : ∀ {l : List α}, l.Pairwise (fun a b => g b ≤ g a) → (∀ x ∈ l, 0 ≤ g x) → lsum (fun x => if p x = true then g x else 0) l ≤ lsum g (l.take (l.countP p))
  | [], _, _ => Int.le_refl _
  | x :: r, h, h0 => by
    obtain ⟨h1, h2⟩ := List.pairwise_cons.1 h
    have h3 := top_sum (p := p) h2 fun y hy => h0 y (List.mem_cons_of_mem _ hy)
    have hx := h0 x List.mem_cons_self
    rw [List.countP_cons, lsum]
    cases hp : p x
    · rw [if_neg (by decide), if_neg (by decide), Nat.add_zero, Int.zero_add]
      refine Int.le_trans h3 ?_
      have hc := List.countP_le_length (p := p) (l := r)
      cases hk : r.countP p with
      | zero => exact Int.le_refl _
      | succ k =>
        rw [List.take_succ_cons, lsum]
        have hkr : k < r.length := by omega
        rw [List.take_succ_eq_append_getElem hkr, lsum_append]
        have := h1 _ (List.getElem_mem hkr)
        simp only [lsum]; omega
    · rw [if_pos rfl, if_pos rfl, List.take_succ_cons, lsum]; omega
/-! ### Who stands where, by how many -/
def dOf (l : List Int) (x : Int) : Int := l.getD x.toNat 0
def descOf (l : List Int) : List Int := (sorted l).reverse
theorem self_ids (l : List Int) : (idsOf l.length).map (dOf l) = l := by
  refine list_ext 0 (by simp [idsOf]) fun k hk => ?_
  have hk : k < l.length := by simpa [idsOf] using hk
  have h2 : (idsOf l.length)[k]? = some (k : Int) := by
    rw [List.getElem?_eq_getElem (by rw [ids_len]; exact hk)]; simp [idsOf]
  rw [List.getD_eq_getElem?_getD, List.getElem?_map, h2]
  simp [dOf]
theorem desc_is (l : List Int) : descOf l = (ordOf l).map (dOf l) := by
  have p1 : (descOf l).Perm l := (List.reverse_perm _).trans (sorted_perm l)
  have p2 : ((ordOf l).map (dOf l)).Perm l := by
    have := (ord_perm l).map (dOf l)
    rw [self_ids] at this
    exact this
  refine (p1.trans p2.symm).eq_of_pairwise (le := fun a b => b ≤ a) (fun a b _ _ h1 h2 => Int.le_antisymm h2 h1) ?_ ?_
  · unfold descOf
    rw [List.pairwise_reverse]
    exact sorted_le l
  · refine List.pairwise_map.2 ((ord_le l).imp fun {a b} h => ?_)
    have := of_decide_eq_true h
    unfold dOf; omega
theorem desc_len (l : List Int) : (descOf l).length = l.length := by rw [desc_is, List.length_map, ord_len]
theorem desc_perm (l : List Int) : (descOf l).Perm l := (List.reverse_perm _).trans (sorted_perm l)
def egLine (l : List Int) (k : Nat) : Prop := addL ((descOf l).take (k + 1)) ≤ (k : Int) * (k + 1) + addMin (k + 1) ((descOf l).drop (k + 1))
theorem line_at (l : List Int) (k : Nat) : egLine l k ↔ lsum (dOf l) ((ordOf l).take (k + 1)) ≤ (k : Int) * (k + 1) + lsum (fun x => min (dOf l x) (k + 1)) ((ordOf l).drop (k + 1)) := by
  unfold egLine addL addMin
  rw [desc_is, ← List.map_take, ← List.map_drop, lsum_map, lsum_map]
theorem sum_ord (l : List Int) (f : Int → Int) : sumTo l.length (fun u => f (u : Int)) = lsum f (ordOf l) := by rw [← lsum_ids, lsum_perm (ord_perm l)]
def allV : Nat → Bool := fun _ => true
theorem eg_all (l : List Int) (S : Nat → Bool) : egF l.length (dOf l ·) allV S = cardV l.length allV S * (cardV l.length allV S - 1) + lsum (fun x => if S x.toNat = true then -dOf l x else min (dOf l x) (cardV l.length allV S)) (ordOf l) := by
  unfold egF egG
  generalize cardV l.length allV S = k
  rw [← sum_ord]
  congr 1
theorem card_ord (l : List Int) (S : Nat → Bool) : cardV l.length allV S = ((ordOf l).countP fun x => S x.toNat : Nat) := by
  rw [← lsum_b2i, ← sum_ord]
  rfl
theorem eg_lines {l : List Int} (h0 : ∀ x ∈ l, 0 ≤ x) : (∀ k, k < l.length → egLine l k) ↔ EG l.length (dOf l ·) allV := by
  have hd : ∀ x, 0 ≤ dOf l x := fun x => by
    unfold dOf
    by_cases h : x.toNat < l.length
    · exact h0 _ (getD_mem h)
    · rw [List.getD_eq_getElem?_getD, List.getElem?_eq_none (by omega)]; exact Int.le_refl _
  constructor
  · intro h S
    rw [eg_all, card_ord]
    have hcl := List.countP_le_length (p := fun x : Int => S x.toNat) (l := ordOf l)
    rw [ord_len] at hcl
    obtain ⟨K, hK⟩ : ∃ K, (ordOf l).countP (fun x => S x.toNat) = K := ⟨_, rfl⟩
    have ht := top_sum (g := fun x => dOf l x + min (dOf l x) (K : Int)) (p := fun x : Int => S x.toNat) (l := ordOf l)
      ((ord_le l).imp fun {a b} h => by
        have := of_decide_eq_true h
        simp only [dOf]; omega) (fun x _ => by have := hd x; omega)
    rw [hK] at ht hcl ⊢
    have e1 : lsum (fun x => if S x.toNat = true then -dOf l x else min (dOf l x) (K : Int)) (ordOf l) + lsum (fun x => if S x.toNat = true then dOf l x + min (dOf l x) (K : Int) else 0) (ordOf l) = lsum (fun x => min (dOf l x) (K : Int)) (ordOf l) := by
      rw [← lsum_add]
      exact lsum_congr fun x _ => by split <;> omega
    have e2 := lsum_append (fun x => min (dOf l x) (K : Int)) ((ordOf l).take K) ((ordOf l).drop K)
    rw [List.take_append_drop] at e2
    rw [lsum_add] at ht
    match K, hcl with
    | 0, _ =>
      have e3 : lsum (fun x => min (dOf l x) ((0 : Nat) : Int)) (ordOf l) = 0 := lsum_zero fun x _ => by have := hd x; omega
      have e0 : ((0 : Nat) : Int) = 0 := rfl
      simp only [List.take_zero, lsum, e0] at ht e1 e3
      simp only [e0, Int.zero_mul, Int.zero_add]
      omega
    | k + 1, hcl =>
      have h1 := (line_at l k).1 (h k (by omega))
      have e4 : ((k + 1 : Nat) : Int) * (((k + 1 : Nat) : Int) - 1) = (k : Int) * (k + 1) := by
        rw [show ((k + 1 : Nat) : Int) - 1 = (k : Int) by omega, Int.mul_comm]; rfl
      have e5 : ((k + 1 : Nat) : Int) = (k : Int) + 1 := rfl
      rw [e4]
      simp only [e5] at ht e1 e2 ⊢
      omega
  · intro h k hk
    refine (line_at l k).2 ?_
    have h1 := h fun u => decide ((u : Int) ∈ (ordOf l).take (k + 1))
    rw [eg_all, card_ord] at h1
    have hm : ∀ x ∈ ordOf l, (decide (((x.toNat : Nat) : Int) ∈ (ordOf l).take (k + 1))) = decide (x ∈ (ordOf l).take (k + 1)) := fun x hx => by
      rw [Int.toNat_of_nonneg (ord_mem.1 hx).1]
    have hin : ∀ x ∈ (ordOf l).take (k + 1), decide (((x.toNat : Nat) : Int) ∈ (ordOf l).take (k + 1)) = true := fun x hx => by
      rw [hm x (List.mem_of_mem_take hx)]; exact decide_eq_true hx
    have hout : ∀ x ∈ (ordOf l).drop (k + 1), decide (((x.toNat : Nat) : Int) ∈ (ordOf l).take (k + 1)) = false := fun x hx => by
      rw [hm x (List.mem_of_mem_drop hx)]
      refine decide_eq_false fun q => ?_
      have hn := ord_nodup l
      rw [← List.take_append_drop (k + 1) (ordOf l)] at hn
      exact (List.nodup_append.1 hn).2.2 x q x hx rfl
    have hc : (ordOf l).countP (fun x => decide (((x.toNat : Nat) : Int) ∈ (ordOf l).take (k + 1))) = k + 1 := by
      have ha := List.countP_append (p := fun x : Int => decide (((x.toNat : Nat) : Int) ∈ (ordOf l).take (k + 1))) (l₁ := (ordOf l).take (k + 1)) (l₂ := (ordOf l).drop (k + 1))
      have hz := List.countP_eq_zero (l := (ordOf l).drop (k + 1)) (p := fun x : Int => decide (((x.toNat : Nat) : Int) ∈ (ordOf l).take (k + 1))).2 fun x hx => by rw [hout x hx]; decide
      rw [List.take_append_drop, List.countP_eq_length.2 hin, hz, List.length_take, ord_len] at ha
      omega
    rw [hc] at h1
    have e4 : ((k + 1 : Nat) : Int) * (((k + 1 : Nat) : Int) - 1) = (k : Int) * (k + 1) := by
      rw [show ((k + 1 : Nat) : Int) - 1 = (k : Int) by omega, Int.mul_comm]; rfl
    rw [e4] at h1
    have e2 := lsum_append (fun x : Int => if decide (((x.toNat : Nat) : Int) ∈ (ordOf l).take (k + 1)) = true then -dOf l x else min (dOf l x) ((k + 1 : Nat) : Int)) ((ordOf l).take (k + 1)) ((ordOf l).drop (k + 1))
    rw [List.take_append_drop] at e2
    have e3 : lsum (fun x : Int => if decide (((x.toNat : Nat) : Int) ∈ (ordOf l).take (k + 1)) = true then -dOf l x else min (dOf l x) ((k + 1 : Nat) : Int)) ((ordOf l).take (k + 1)) + lsum (dOf l) ((ordOf l).take (k + 1)) = 0 := by
      rw [← lsum_add]
      exact lsum_zero fun x hx => by rw [if_pos (hin x hx)]; omega
    have e6 : lsum (fun x : Int => if decide (((x.toNat : Nat) : Int) ∈ (ordOf l).take (k + 1)) = true then -dOf l x else min (dOf l x) ((k + 1 : Nat) : Int)) ((ordOf l).drop (k + 1)) = lsum (fun x => min (dOf l x) ((k : Int) + 1)) ((ordOf l).drop (k + 1)) :=
      lsum_congr fun x hx => by rw [if_neg (by rw [hout x hx]; decide)]; rfl
    omega
end Go.Ab
