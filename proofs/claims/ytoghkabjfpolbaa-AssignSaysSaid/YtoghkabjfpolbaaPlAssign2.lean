/- Of who does what: the plain laws, part two: the least prices. -/
import Derived.Test.YtoghkabjfpolbaaPlAssign
namespace Go.Ab
/-- What a row would rather have of another row's column. -/
def wt (t : List (List Int)) (p : List Int) (a b : Nat) : Int := gn t a (p.getD b 0).toNat - gn t a (p.getD a 0).toNat
/-- The sum along a way, that is told from its end. -/
def pwR (t : List (List Int)) (p : List Int) : List Nat → Int
  | [] => 0
  | [_] => 0
  | b :: a :: r => wt t p a b + pwR t p (a :: r)
def lastOf : Nat → List Nat → Nat
  | x, [] => x
  | _, y :: r => lastOf y r
theorem pwR_split {t : List (List Int)} {p : List Int} {b : Nat} {Y : List Nat} : ∀ {X : List Nat}, pwR t p (X ++ b :: Y) = pwR t p (X ++ [b]) + pwR t p (b :: Y)
  | [] => by simp [pwR]
  | [x] => by simp [pwR]
  | x :: y :: X => by
    have := pwR_split (t := t) (p := p) (b := b) (Y := Y) (X := y :: X)
    simp only [List.cons_append] at this ⊢
    rw [pwR, pwR, this]; omega
theorem isFull.ex {n : Nat} {q : List Int} (h : isFull n q) {k : Nat} (hk : k < n) : ∃ i : Nat, i < n ∧ q.getD i 0 = k := by
  obtain ⟨i, hi, he⟩ := List.mem_iff_getElem.1 (h.2 k hk)
  exact ⟨i, by rw [← h.1]; exact hi, by rw [getD_lt q 0 i hi]; exact he⟩
theorem isFull.inj {n : Nat} {q : List Int} (h : isFull n q) {i j : Nat} (hi : i < n) (hj : j < n) (e : q.getD i 0 = q.getD j 0) : i = j := by
  have hn := h.nodup
  rw [getD_lt q 0 i (by rw [h.1]; exact hi), getD_lt q 0 j (by rw [h.1]; exact hj)] at e
  have hp := List.pairwise_iff_getElem.1 hn
  rcases Nat.lt_trichotomy i j with q | q | q
  · exact absurd e (hp i j (by rw [h.1]; exact hi) (by rw [h.1]; exact hj) q)
  · exact q
  · exact absurd e.symm (hp j i (by rw [h.1]; exact hj) (by rw [h.1]; exact hi) q)
theorem isFull.swap {n : Nat} {q : List Int} (h : isFull n q) {x y : Nat} (hx : x < n) (hy : y < n) : isFull n ((q.set y (q.getD x 0)).set x (q.getD y 0)) := by
  have hl := h.1
  have hg : ∀ i, ((q.set y (q.getD x 0)).set x (q.getD y 0)).getD i 0 = if i = x then q.getD y 0 else if i = y then q.getD x 0 else q.getD i 0 := fun i => by
    rw [getD_set _ _ _ _ _ (by rw [List.length_set]; omega), getD_set _ _ _ _ _ (by omega)]
  refine ⟨by rw [List.length_set, List.length_set]; exact hl, fun k hk => ?_⟩
  obtain ⟨i, hi, he⟩ := h.ex hk
  have hmem : ∀ j, j < n → ((q.set y (q.getD x 0)).set x (q.getD y 0)).getD j 0 ∈ (q.set y (q.getD x 0)).set x (q.getD y 0) := fun j hj => getD_mem (by rw [List.length_set, List.length_set]; omega)
  by_cases e1 : i = x
  · have := hmem y hy
    rw [hg y] at this
    by_cases e3 : y = x
    · rw [if_pos e3] at this; rw [show ((k : Nat) : Int) = q.getD y 0 by rw [e3, ← e1]; exact he.symm]; exact this
    · rw [if_neg e3, if_pos rfl] at this; rw [← he, e1]; exact this
  · by_cases e2 : i = y
    · have := hmem x hx
      rw [hg x, if_pos rfl] at this
      rw [← he, e2]; exact this
    · have := hmem i hi
      rw [hg i, if_neg e1, if_neg e2, he] at this
      exact this
/-! ### Rows that hand their columns on, round and round -/
theorem exchange {t : List (List Int)} {n : Nat} {p : List Int} (hp : isFull n p) : ∀ {C : List Nat} {x : Nat}, (x :: C).Nodup → (∀ i ∈ x :: C, i < n) →
    ∃ q, isFull n q ∧ sumOf t q = sumOf t p + pwR t p (x :: C) + wt t p x (lastOf x C) ∧ q.getD x 0 = p.getD (lastOf x C) 0 ∧ ∀ r, r ∉ x :: C → q.getD r 0 = p.getD r 0
  | [], x, _, _ => ⟨p, hp, by simp [pwR, lastOf, wt], rfl, fun r _ => rfl⟩
  | y :: C, x, hn, hi => by
    obtain ⟨hx, hn2⟩ := List.nodup_cons.1 hn
    obtain ⟨q, q1, q2, q3, q4⟩ := exchange (t := t) hp hn2 fun i h => hi i (List.mem_cons_of_mem _ h)
    have hxn := hi x List.mem_cons_self
    have hyn := hi y (List.mem_cons_of_mem _ List.mem_cons_self)
    have hxy : x ≠ y := fun e => hx (by rw [e]; exact List.mem_cons_self)
    have hqx := q4 x hx
    have hl := q1.1
    refine ⟨(q.set y (q.getD x 0)).set x (q.getD y 0), q1.swap hxn hyn, ?_, ?_, fun r hr => ?_⟩
    · rw [sumOf_set (by rw [List.length_set]; omega), sumOf_set (by omega), getD_set_ne _ _ _ _ _ (by omega), q2, q3, hqx]
      show _ = sumOf t p + (wt t p y x + pwR t p (y :: C)) + wt t p x (lastOf y C)
      unfold wt
      omega
    · rw [getD_set_self _ _ _ _ (by rw [List.length_set]; omega)]; exact q3
    · have h1 : r ≠ x := fun e => hr (by rw [e]; exact List.mem_cons_self)
      have h2 : r ≠ y := fun e => hr (by rw [e]; exact List.mem_cons_of_mem _ List.mem_cons_self)
      rw [getD_set_ne _ _ _ _ _ (by omega), getD_set_ne _ _ _ _ _ (by omega)]
      exact q4 r fun h => hr (List.mem_cons_of_mem _ h)
theorem round_le {t : List (List Int)} {n : Nat} {p : List Int} (hp : isFull n p) (hb : ∀ q, isFull n q → sumOf t q ≤ sumOf t p) {C : List Nat} {x : Nat} (hn : (x :: C).Nodup) (hi : ∀ i ∈ x :: C, i < n) :
    pwR t p (x :: C) + wt t p x (lastOf x C) ≤ 0 := by
  obtain ⟨q, q1, q2, _⟩ := exchange (t := t) hp hn hi
  have := hb q q1
  omega
/-! ### The least prices -/
theorem int_max {S : Int → Prop} {B : Int} (h : ∃ x, S x) (hb : ∀ x, S x → x ≤ B) : ∃ m, S m ∧ ∀ x, S x → x ≤ m := by
  have key : ∀ (k : Nat) (x : Int), S x → (B - x).toNat ≤ k → ∃ m, S m ∧ ∀ x, S x → x ≤ m := by
    intro k
    induction k with
    | zero =>
      intro x hx hk
      exact ⟨x, hx, fun y hy => by have := hb y hy; have := hb x hx; omega⟩
    | succ k ih =>
      intro x hx hk
      rcases Classical.em (∃ y, S y ∧ x < y) with ⟨y, hy, hlt⟩ | q
      · exact ih y hy (by have := hb y hy; omega)
      · exact ⟨x, hx, fun y hy => by
          rcases Int.lt_or_le x y with r | r
          · exact absurd ⟨y, hy, r⟩ q
          · exact r⟩
  obtain ⟨x, hx⟩ := h
  exact key _ x hx (Nat.le_refl _)
theorem nodup_len : ∀ {n : Nat} {l : List Nat}, l.Nodup → (∀ i ∈ l, i < n) → l.length ≤ n
  | 0, l, _, h => by
    cases l with
    | nil => simp
    | cons a l => have := h a List.mem_cons_self; omega
  | n + 1, l, hn, h => by
    by_cases e : n ∈ l
    · have h1 := nodup_len (n := n) (l := l.erase n) (hn.erase n) fun i hi => by
        have h2 := (hn.mem_erase_iff).1 hi
        have := h i h2.2
        have := h2.1
        omega
      rw [List.length_erase_of_mem e] at h1
      omega
    · have := nodup_len (n := n) hn fun i hi => by
        have := h i hi
        have : i ≠ n := fun q => e (by rw [← q]; exact hi)
        omega
      omega
theorem wt_in {t : List (List Int)} (hG : Gains t) {p : List Int} (hp : isFull t.length p) {a b : Nat} (ha : a < t.length) (hb : b < t.length) : -2000 ≤ wt t p a b ∧ wt t p a b ≤ 2000 := by
  have h1 := hp.at_ ha; have h2 := hp.at_ hb
  have h3 := hG.at_ a (p.getD b 0).toNat ha (by omega)
  have h4 := hG.at_ a (p.getD a 0).toNat ha (by omega)
  unfold wt; omega
theorem pwR_le {t : List (List Int)} (hG : Gains t) {p : List Int} (hp : isFull t.length p) : ∀ {l : List Nat}, (∀ i ∈ l, i < t.length) → pwR t p l ≤ 2000 * (l.length : Int)
  | [], _ => by simp [pwR]
  | [_], _ => by simp [pwR]
  | b :: a :: r, h => by
    have h1 := pwR_le hG hp (l := a :: r) fun i hi => h i (List.mem_cons_of_mem _ hi)
    have h2 := wt_in hG hp (h a (List.mem_cons_of_mem _ List.mem_cons_self)) (h b List.mem_cons_self)
    rw [pwR, List.length_cons]
    rw [List.length_cons] at h1 ⊢
    omega
structure LeastP (t : List (List Int)) (p : List Int) (D : Nat → Int) : Prop where
  full : isFull t.length p
  pos : ∀ b, b < t.length → 0 ≤ D b ∧ D b ≤ 12000
  cl : ∀ a b, a < t.length → b < t.length → D a + wt t p a b ≤ D b
  path : ∀ b, b < t.length → ∃ r, (b :: r).Nodup ∧ (∀ i ∈ b :: r, i < t.length) ∧ pwR t p (b :: r) = D b
  sup : ∀ b r, (b :: r).Nodup → (∀ i ∈ b :: r, i < t.length) → pwR t p (b :: r) ≤ D b
theorem least_ex {t : List (List Int)} (hG : Gains t) : ∃ D, LeastP t (bestOf t).1 D := by
  obtain ⟨hp, hs, hb⟩ := best_spec hG
  have h6 := hG.n6
  have h1 : ∀ b, ∃ m : Int, b < t.length → (∃ r, (b :: r).Nodup ∧ (∀ i ∈ b :: r, i < t.length) ∧ pwR t (bestOf t).1 (b :: r) = m) ∧ ∀ r, (b :: r).Nodup → (∀ i ∈ b :: r, i < t.length) → pwR t (bestOf t).1 (b :: r) ≤ m := by
    intro b
    by_cases e : b < t.length
    · obtain ⟨m, m1, m2⟩ := int_max (S := fun d => ∃ r, (b :: r).Nodup ∧ (∀ i ∈ b :: r, i < t.length) ∧ pwR t (bestOf t).1 (b :: r) = d) (B := 12000)
        ⟨0, [], by simp, by intro i hi; rw [List.mem_singleton] at hi; rw [hi]; exact e, rfl⟩
        (by
          rintro x ⟨r, r1, r2, rfl⟩
          have h2 := pwR_le hG hp r2
          have h3 := nodup_len r1 r2
          omega)
      exact ⟨m, fun _ => ⟨m1, fun r r1 r2 => m2 _ ⟨r, r1, r2, rfl⟩⟩⟩
    · exact ⟨0, fun q => absurd q e⟩
  obtain ⟨D, hD⟩ := Classical.axiomOfChoice h1
  refine ⟨D, hp, fun b h => ?_, fun a b ha hbn => ?_, fun b h => (hD b h).1, fun b r r1 r2 => (hD b (r2 b List.mem_cons_self)).2 r r1 r2⟩
  · refine ⟨(hD b h).2 [] (by simp) (by intro i hi; rw [List.mem_singleton] at hi; rw [hi]; exact h), ?_⟩
    obtain ⟨⟨r, r1, r2, r3⟩, _⟩ := hD b h
    have h2 := pwR_le hG hp r2
    have h3 := nodup_len r1 r2
    omega
  · obtain ⟨⟨r, r1, r2, r3⟩, _⟩ := hD a ha
    by_cases e : b ∈ a :: r
    · obtain ⟨X, Y, hXY⟩ := List.append_of_mem e
      rw [hXY] at r1 r2 r3
      rw [pwR_split] at r3
      have hY : (b :: Y).Nodup := (List.nodup_append.1 r1).2.1
      have hYi : ∀ i ∈ b :: Y, i < t.length := fun i hi => r2 i (List.mem_append_right _ hi)
      have h2 := (hD b hbn).2 Y hY hYi
      cases X with
      | nil =>
        have hab : a = b := by injection hXY
        have : wt t (bestOf t).1 a b = 0 := by rw [hab]; unfold wt; omega
        have h3 : pwR t (bestOf t).1 ([] ++ [b]) = 0 := rfl
        omega
      | cons x X =>
        have hax : a = x := by injection hXY
        have hXn : (x :: (X ++ [b])).Nodup := by
          rw [show x :: X ++ b :: Y = (x :: (X ++ [b])) ++ Y by simp] at r1
          exact (List.nodup_append.1 r1).1
        have hXi : ∀ i ∈ x :: (X ++ [b]), i < t.length := fun i hi => r2 i (by
          rw [show x :: X ++ b :: Y = (x :: (X ++ [b])) ++ Y by simp]; exact List.mem_append_left _ hi)
        have h4 := round_le (t := t) hp (fun q hq => by rw [hs]; exact hb q hq) hXn hXi
        have hlast : ∀ (X : List Nat) (x : Nat), lastOf x (X ++ [b]) = b := by
          intro X
          induction X with
          | nil => intro x; rfl
          | cons y X ih => intro x; exact ih y
        rw [hlast] at h4
        rw [hax] at r3 ⊢
        have h5 : pwR t (bestOf t).1 (x :: X ++ [b]) = pwR t (bestOf t).1 (x :: (X ++ [b])) := rfl
        omega
    · have h2 := (hD b hbn).2 (a :: r) (List.nodup_cons.2 ⟨e, r1⟩) fun i hi => by
        rcases List.mem_cons.1 hi with rfl | hi
        · exact hbn
        · exact r2 i hi
      rw [pwR, r3] at h2
      omega
theorem LeastP.uniq {t : List (List Int)} {p : List Int} {D E : Nat → Int} (h : LeastP t p D) (g : LeastP t p E) {b : Nat} (hb : b < t.length) : D b = E b := by
  obtain ⟨r, r1, r2, r3⟩ := h.path b hb
  obtain ⟨s, s1, s2, s3⟩ := g.path b hb
  have h1 := g.sup b r r1 r2
  have h2 := h.sup b s s1 s2
  omega
def IsPrice (t : List (List Int)) (p : List Int) (x : List Int) : Prop := x.length = t.length ∧ ∃ D, LeastP t p D ∧ ∀ b, b < t.length → x.getD (p.getD b 0).toNat 0 = D b
theorem IsPrice.uniq {t : List (List Int)} {p x y : List Int} (hx : IsPrice t p x) (hy : IsPrice t p y) : x = y := by
  obtain ⟨x1, D, hD, x2⟩ := hx
  obtain ⟨y1, E, hE, y2⟩ := hy
  refine list_ext 0 (by omega) fun k hk => ?_
  obtain ⟨b, hb, he⟩ := hD.full.ex (k := k) (by omega)
  have h1 := x2 b hb; have h2 := y2 b hb
  rw [he, Int.toNat_natCast] at h1 h2
  rw [h1, h2, hD.uniq hE hb]
/-! ### Round by round -/
structure RelP (t : List (List Int)) (p : List Int) (D : Nat → Int) (x0 x : List Int) (i k : Nat) : Prop where
  len : x.length = t.length
  up : ∀ b, b < t.length → 0 ≤ x.getD (p.getD b 0).toNat 0 ∧ x.getD (p.getD b 0).toNat 0 ≤ D b
  ge : ∀ j, x0.getD j 0 ≤ x.getD j 0
  done : ∀ i' k' : Nat, (i' < i ∨ i' = i ∧ k' < k) → k' < t.length → x0.getD (p.getD i' 0).toNat 0 + gn t i' k' - gn t i' (p.getD i' 0).toNat ≤ x.getD k' 0
structure Upx (t : List (List Int)) (p : List Int) (D : Nat → Int) (x : List Int) (r : Nat) : Prop where
  len : x.length = t.length
  up : ∀ b, b < t.length → 0 ≤ x.getD (p.getD b 0).toNat 0 ∧ x.getD (p.getD b 0).toNat 0 ≤ D b
  low : ∀ b l, (b :: l).Nodup → (∀ i ∈ b :: l, i < t.length) → l.length ≤ r → pwR t p (b :: l) ≤ x.getD (p.getD b 0).toNat 0
theorem zeros_get (n j : Nat) : (List.replicate n (0 : Int)).getD j 0 = 0 := by
  by_cases q : j < n
  · rw [getD_lt _ 0 j (by simpa using q), List.getElem_replicate]
  · exact getD_ge _ _ _ (by simp; omega)
theorem Upx.start {t : List (List Int)} {p : List Int} {D : Nat → Int} (h : LeastP t p D) : Upx t p D (List.replicate t.length 0) 0 where
  len := by simp
  up := fun b hb => by rw [zeros_get]; have := h.pos b hb; omega
  low := fun b l _ _ hl => by
    have : l = [] := List.eq_nil_of_length_eq_zero (by omega)
    rw [this, zeros_get]; exact Int.le_refl _
theorem Upx.rel {t : List (List Int)} {p : List Int} {D : Nat → Int} {x : List Int} {r : Nat} (h : Upx t p D x r) : RelP t p D x x 0 0 :=
  ⟨h.len, h.up, fun _ => Int.le_refl _, fun i' k' hik => by omega⟩
theorem RelP.step {t : List (List Int)} {p : List Int} {D : Nat → Int} {x0 x : List Int} {i k : Nat} (hD : LeastP t p D) (h : RelP t p D x0 x i k) (hi : i < t.length) (hk : k < t.length) :
    RelP t p D x0 (x.set k (max (x.getD k 0) ((x.getD (p.getD i 0).toNat 0 + gn t i k) - gn t i (p.getD i 0).toNat))) i (k + 1) := by
  have hl := h.len
  have hui := h.up i hi
  have hget : ∀ j, (x.set k (max (x.getD k 0) ((x.getD (p.getD i 0).toNat 0 + gn t i k) - gn t i (p.getD i 0).toNat))).getD j 0 = if j = k then max (x.getD k 0) ((x.getD (p.getD i 0).toNat 0 + gn t i k) - gn t i (p.getD i 0).toNat) else x.getD j 0 := fun j => getD_set _ _ _ _ _ (by omega)
  refine ⟨by rw [List.length_set]; exact hl, fun b hb => ?_, fun j => ?_, fun i' k' hik hkn => ?_⟩
  · rw [hget]
    have hub := h.up b hb
    split
    · rename_i e
      have hc := hD.cl i b hi hb
      unfold wt at hc
      rw [e] at hub hc
      omega
    · exact hub
  · rw [hget]
    have := h.ge j
    split
    · rename_i e; rw [e] at this ⊢; omega
    · exact this
  · rw [hget]
    by_cases e : k' = k
    · rw [if_pos e]
      by_cases e2 : i' = i
      · have := h.ge (p.getD i' 0).toNat
        rw [e2] at this ⊢; rw [e]; omega
      · have := h.done i' k' (by omega) hkn
        rw [e] at this ⊢; omega
    · rw [if_neg e]
      exact h.done i' k' (by omega) hkn
theorem RelP.row {t : List (List Int)} {p : List Int} {D : Nat → Int} {x0 x : List Int} {i k : Nat} (h : RelP t p D x0 x i k) (hk : t.length ≤ k) : RelP t p D x0 x (i + 1) 0 :=
  ⟨h.len, h.up, h.ge, fun i' k' hik hkn => h.done i' k' (by omega) hkn⟩
theorem RelP.all {t : List (List Int)} {p : List Int} {D : Nat → Int} {x0 x : List Int} {i k r : Nat} (hD : LeastP t p D) (h : RelP t p D x0 x i k) (h0 : Upx t p D x0 r) (hi : t.length ≤ i) : Upx t p D x (r + 1) := by
  refine ⟨h.len, h.up, fun b l hn hl hlen => ?_⟩
  cases l with
  | nil => exact (h.up b (hl b List.mem_cons_self)).1
  | cons a l =>
    have hb := hl b List.mem_cons_self
    have ha := hl a (List.mem_cons_of_mem _ List.mem_cons_self)
    have h1 := h0.low a l (List.nodup_cons.1 hn).2 (fun i hi => hl i (List.mem_cons_of_mem _ hi)) (by rw [List.length_cons] at hlen; omega)
    have h2 := hD.full.at_ hb
    have h3 := h.done a (p.getD b 0).toNat (by omega) (by omega)
    rw [pwR]
    unfold wt
    omega
theorem Upx.price {t : List (List Int)} {p : List Int} {D : Nat → Int} {x : List Int} {r : Nat} (hD : LeastP t p D) (h : Upx t p D x r) (hr : t.length ≤ r) : IsPrice t p x := by
  refine ⟨h.len, D, hD, fun b hb => ?_⟩
  obtain ⟨l, l1, l2, l3⟩ := hD.path b hb
  have h1 := h.low b l l1 l2 (by have := nodup_len l1 l2; rw [List.length_cons] at this; omega)
  have := h.up b hb
  omega
/-! ### The reference's table -/
structure SqT (n : Nat) (O : List (List Int)) : Prop where
  len : O.length = n
  row : ∀ i, i < n → (O.getD i []).length = n
theorem SqT.set {n : Nat} {O : List (List Int)} (h : SqT n O) {i k : Nat} (hi : i < n) (hk : k < n) (v : Int) : SqT n (O.set i ((O.getD i []).set k v)) ∧ ∀ a b, gn (O.set i ((O.getD i []).set k v)) a b = if a = i ∧ b = k then v else gn O a b := by
  refine ⟨⟨by rw [List.length_set]; exact h.len, fun j hj => ?_⟩, fun a b => ?_⟩
  · rw [getD_set _ _ _ _ _ (by rw [h.len]; exact hi)]
    split
    · rw [List.length_set]; exact h.row i hi
    · exact h.row j hj
  · unfold gn
    rw [getD_set _ _ _ _ _ (by rw [h.len]; exact hi)]
    by_cases e : a = i
    · rw [if_pos e, getD_set _ _ _ _ _ (by rw [h.row i hi]; exact hk), e]
      by_cases e2 : b = k
      · rw [if_pos e2, if_pos ⟨rfl, e2⟩]
      · rw [if_neg e2, if_neg fun q => e2 q.2]
    · rw [if_neg e, if_neg fun q => e q.1]
structure OSet (t : List (List Int)) (p : List Int) (O : List (List Int)) (i k : Nat) : Prop where
  sq : SqT t.length O
  done : ∀ i' k' : Nat, (i' < i ∨ i' = i ∧ k' < k) → i' < t.length → k' < t.length → gn O (p.getD i' 0).toNat k' = gn t i' k' - gn t i' (p.getD i' 0).toNat
theorem OSet.step {t : List (List Int)} {p : List Int} {O : List (List Int)} {i k : Nat} (hp : isFull t.length p) (h : OSet t p O i k) (hi : i < t.length) (hk : k < t.length) :
    OSet t p (O.set (p.getD i 0).toNat ((O.getD (p.getD i 0).toNat []).set k (gn t i k - gn t i (p.getD i 0).toNat))) i (k + 1) := by
  have hpi := hp.at_ hi
  obtain ⟨h1, h2⟩ := h.sq.set (i := (p.getD i 0).toNat) (k := k) (by omega) hk (gn t i k - gn t i (p.getD i 0).toNat)
  refine ⟨h1, fun i' k' hik hin hkn => ?_⟩
  rw [h2]
  have hpi' := hp.at_ hin
  by_cases e : (p.getD i' 0).toNat = (p.getD i 0).toNat ∧ k' = k
  · have : i' = i := hp.inj hin hi (by omega)
    rw [if_pos e, this, e.2]
  · rw [if_neg e]
    refine h.done i' k' ?_ hin hkn
    rcases hik with q | ⟨q1, q2⟩
    · exact .inl q
    · right
      refine ⟨q1, ?_⟩
      have : k' ≠ k := fun r => e ⟨by rw [q1], r⟩
      omega
theorem OSet.row {t : List (List Int)} {p : List Int} {O : List (List Int)} {i k : Nat} (h : OSet t p O i k) (hk : t.length ≤ k) : OSet t p O (i + 1) 0 :=
  ⟨h.sq, fun i' k' hik hin hkn => h.done i' k' (by omega) hin hkn⟩
structure FW (t : List (List Int)) (p : List Int) (D : Nat → Int) (O : List (List Int)) (m : Nat) : Prop where
  sq : SqT t.length O
  up : ∀ a b, a < t.length → b < t.length → gn O (p.getD a 0).toNat (p.getD b 0).toNat ≤ D b - D a
  lo : ∀ i k, i < t.length → k < t.length → -12000 ≤ gn O i k
  low : ∀ a b M, (b :: (M ++ [a])).Nodup → (∀ i ∈ b :: (M ++ [a]), i < t.length) → (∀ x ∈ M, p.getD x 0 < m) → pwR t p (b :: (M ++ [a])) ≤ gn O (p.getD a 0).toNat (p.getD b 0).toNat
theorem OSet.fw {t : List (List Int)} {p : List Int} {D : Nat → Int} {O : List (List Int)} {i k : Nat} (hG : Gains t) (hD : LeastP t p D) (h : OSet t p O i k) (hi : t.length ≤ i) : FW t p D O 0 := by
  have hp := hD.full
  have hat : ∀ a b, a < t.length → b < t.length → gn O (p.getD a 0).toNat (p.getD b 0).toNat = wt t p a b := fun a b ha hb => by
    have h2 := hp.at_ hb
    rw [h.done a (p.getD b 0).toNat (by omega) ha (by omega)]; rfl
  refine ⟨h.sq, fun a b ha hb => ?_, fun a b ha hb => ?_, fun a b M hn hl hM => ?_⟩
  · have := hD.cl a b ha hb
    rw [hat a b ha hb]; omega
  · obtain ⟨a', ha', hae⟩ := hp.ex ha
    obtain ⟨b', hb', hbe⟩ := hp.ex hb
    have h1 := hat a' b' ha' hb'
    rw [hae, hbe, Int.toNat_natCast, Int.toNat_natCast] at h1
    have := wt_in hG hp ha' hb'
    omega
  · cases M with
    | nil =>
      have ha := hl a (by simp); have hb := hl b (by simp)
      rw [hat a b ha hb]
      show wt t p a b + 0 ≤ _
      omega
    | cons x M =>
      exfalso
      have h1 := hM x List.mem_cons_self
      have h2 := hp.at_ (hl x (by simp))
      omega
structure FWs (t : List (List Int)) (p : List Int) (D : Nat → Int) (O0 O : List (List Int)) (m i k : Nat) : Prop where
  sq : SqT t.length O
  up : ∀ a b, a < t.length → b < t.length → gn O (p.getD a 0).toNat (p.getD b 0).toNat ≤ D b - D a
  ge : ∀ a b, gn O0 a b ≤ gn O a b
  done : ∀ i' k' : Nat, (i' < i ∨ i' = i ∧ k' < k) → i' < t.length → k' < t.length → gn O0 i' m + gn O0 m k' ≤ gn O i' k'
theorem FW.start {t : List (List Int)} {p : List Int} {D : Nat → Int} {O : List (List Int)} {m : Nat} (h : FW t p D O m) : FWs t p D O O m 0 0 :=
  ⟨h.sq, h.up, fun _ _ => Int.le_refl _, fun i' k' hik => by omega⟩
theorem FWs.step {t : List (List Int)} {p : List Int} {D : Nat → Int} {O0 O : List (List Int)} {m i k : Nat} (hD : LeastP t p D) (h : FWs t p D O0 O m i k) (hm : m < t.length) (hi : i < t.length) (hk : k < t.length) :
    FWs t p D O0 (O.set i ((O.getD i []).set k (max (gn O i k) (gn O i m + gn O m k)))) m i (k + 1) := by
  have hp := hD.full
  obtain ⟨h1, h2⟩ := h.sq.set hi hk (max (gn O i k) (gn O i m + gn O m k))
  refine ⟨h1, fun a b ha hb => ?_, fun a b => ?_, fun i' k' hik hin hkn => ?_⟩
  · rw [h2]
    have hab := h.up a b ha hb
    split
    · rename_i e
      obtain ⟨c, hc, hce⟩ := hp.ex hm
      have h3 := h.up a c ha hc
      have h4 := h.up c b hc hb
      rw [hce, Int.toNat_natCast] at h3 h4
      rw [e.1] at h3 hab
      rw [e.2] at h4 hab
      omega
    · exact hab
  · rw [h2]
    have := h.ge a b
    split
    · rename_i e; rw [e.1, e.2] at this ⊢; omega
    · exact this
  · rw [h2]
    by_cases e : i' = i ∧ k' = k
    · rw [if_pos e, e.1, e.2]
      have := h.ge i m; have := h.ge m k
      omega
    · rw [if_neg e]
      refine h.done i' k' ?_ hin hkn
      rcases hik with q | ⟨q1, q2⟩
      · exact .inl q
      · right
        refine ⟨q1, ?_⟩
        have : k' ≠ k := fun r => e ⟨q1, r⟩
        omega
theorem FWs.row {t : List (List Int)} {p : List Int} {D : Nat → Int} {O0 O : List (List Int)} {m i k : Nat} (h : FWs t p D O0 O m i k) (hk : t.length ≤ k) : FWs t p D O0 O m (i + 1) 0 :=
  ⟨h.sq, h.up, h.ge, fun i' k' hik hin hkn => h.done i' k' (by omega) hin hkn⟩
theorem FWs.all {t : List (List Int)} {p : List Int} {D : Nat → Int} {O0 O : List (List Int)} {m i k : Nat} (hD : LeastP t p D) (h : FWs t p D O0 O m i k) (h0 : FW t p D O0 m) (hi : t.length ≤ i) : FW t p D O (m + 1) := by
  have hp := hD.full
  refine ⟨h.sq, h.up, fun a b ha hb => ?_, fun a b M hn hl hM => ?_⟩
  · have h1 := h0.lo a b ha hb
    have h2 := h.ge a b
    omega
  · have ha := hl a (by simp); have hb := hl b (by simp)
    have hpa := hp.at_ ha; have hpb := hp.at_ hb
    by_cases e : ∀ x ∈ M, p.getD x 0 < m
    · exact Int.le_trans (h0.low a b M hn hl e) (h.ge _ _)
    · obtain ⟨x, hxM, hxm⟩ : ∃ x, x ∈ M ∧ ¬ p.getD x 0 < m := by
        rcases Classical.em (∃ x, x ∈ M ∧ ¬ p.getD x 0 < m) with q | q
        · exact q
        · exact absurd (fun x hx => by
            rcases Int.lt_or_le (p.getD x 0) m with r | r
            · exact r
            · exact absurd ⟨x, hx, by omega⟩ q) e
      have hxe : p.getD x 0 = m := by have := hM x hxM; omega
      obtain ⟨M1, M2, rfl⟩ := List.append_of_mem hxM
      have hsp : b :: (M1 ++ x :: M2 ++ [a]) = (b :: M1) ++ x :: (M2 ++ [a]) := by simp
      rw [hsp] at hn hl ⊢
      rw [pwR_split]
      have hn2 := (List.nodup_append.1 hn).2.1
      have hn1 : ((b :: M1) ++ [x]).Nodup := by
        rw [show (b :: M1) ++ x :: (M2 ++ [a]) = ((b :: M1) ++ [x]) ++ (M2 ++ [a]) by simp] at hn
        exact (List.nodup_append.1 hn).1
      have hxn := hl x (by simp)
      have hne : ∀ y ∈ M1 ++ M2, p.getD y 0 < m := by
        intro y hy
        have hyM : y ∈ M1 ++ x :: M2 := by
          rcases List.mem_append.1 hy with q | q
          · exact List.mem_append_left _ q
          · exact List.mem_append_right _ (List.mem_cons_of_mem _ q)
        have h1 := hM y hyM
        have hyn := hl y (by
          rcases List.mem_append.1 hy with q | q
          · exact List.mem_append_left _ (List.mem_cons_of_mem _ q)
          · exact List.mem_append_right _ (List.mem_cons_of_mem _ (List.mem_append_left _ q)))
        have hyx : y ≠ x := by
          rintro rfl
          rcases List.mem_append.1 hy with q | q
          · exact (List.nodup_append.1 hn1).2.2 y (List.mem_cons_of_mem _ q) y (by simp) rfl
          · exact (List.nodup_cons.1 hn2).1 (List.mem_append_left _ q)
        have : p.getD y 0 ≠ m := fun q => hyx (hp.inj hyn hxn (by omega))
        omega
      have h1 := h0.low x b M1 (by simpa using hn1) (fun i hi => hl i (by
        rw [show (b :: M1) ++ x :: (M2 ++ [a]) = (b :: (M1 ++ [x])) ++ (M2 ++ [a]) by simp]; exact List.mem_append_left _ hi)) fun y hy => hne y (List.mem_append_left _ hy)
      have h2 := h0.low a x M2 hn2 (fun i hi => hl i (List.mem_append_right _ hi)) fun y hy => hne y (List.mem_append_right _ hy)
      rw [hxe, Int.toNat_natCast] at h1 h2
      have h3 := h.done (p.getD a 0).toNat (p.getD b 0).toNat (by omega) (by omega) (by omega)
      have h4 : pwR t p ((b :: M1) ++ [x]) = pwR t p (b :: (M1 ++ [x])) := rfl
      omega
structure Pay (t : List (List Int)) (p : List Int) (D : Nat → Int) (O : List (List Int)) (y : List Int) (k i : Nat) : Prop where
  len : y.length = t.length
  fin : ∀ b, b < t.length → p.getD b 0 < k → y.getD (p.getD b 0).toNat 0 = D b
  cur : ∀ b, b < t.length → p.getD b 0 = k → 0 ≤ y.getD k 0 ∧ y.getD k 0 ≤ D b ∧ ∀ i' : Nat, i' < i → gn O i' k ≤ y.getD k 0
  rest : ∀ j : Nat, k < j → y.getD j 0 = 0
theorem Pay.start {t : List (List Int)} {p : List Int} {D : Nat → Int} {O : List (List Int)} (hD : LeastP t p D) : Pay t p D O (List.replicate t.length 0) 0 0 where
  len := by simp
  fin := fun b hb h => by have := hD.full.at_ hb; omega
  cur := fun b hb h => by rw [zeros_get]; have := hD.pos b hb; exact ⟨by omega, by omega, fun i' hi => by omega⟩
  rest := fun j hj => zeros_get _ _
theorem Pay.step {t : List (List Int)} {p : List Int} {D : Nat → Int} {O : List (List Int)} {y : List Int} {k i m : Nat} (hD : LeastP t p D) (hO : FW t p D O m) (h : Pay t p D O y k i) (hk : k < t.length) (hi : i < t.length) :
    Pay t p D O (y.set k (max (y.getD k 0) (gn O i k))) k (i + 1) := by
  have hl := h.len
  have hget : ∀ j, (y.set k (max (y.getD k 0) (gn O i k))).getD j 0 = if j = k then max (y.getD k 0) (gn O i k) else y.getD j 0 := fun j => getD_set _ _ _ _ _ (by omega)
  refine ⟨by rw [List.length_set]; exact hl, fun b hb hbk => ?_, fun b hb hbk => ?_, fun j hj => ?_⟩
  · have := hD.full.at_ hb
    rw [hget, if_neg (by omega)]; exact h.fin b hb hbk
  · rw [hget, if_pos rfl]
    obtain ⟨c1, c2, c3⟩ := h.cur b hb hbk
    obtain ⟨a, ha, hae⟩ := hD.full.ex hi
    have h1 := hO.up a b ha hb
    rw [hae, hbk, Int.toNat_natCast, Int.toNat_natCast] at h1
    have h2 := hD.pos a ha
    refine ⟨by omega, by omega, fun i' hi' => ?_⟩
    rcases Nat.lt_succ_iff_lt_or_eq.1 hi' with q | q
    · have := c3 i' q; omega
    · rw [q]; omega
  · rw [hget, if_neg (by omega)]; exact h.rest j hj
theorem Pay.col {t : List (List Int)} {p : List Int} {D : Nat → Int} {O : List (List Int)} {y : List Int} {k i m : Nat} (hD : LeastP t p D) (hO : FW t p D O m) (hm : t.length ≤ m) (h : Pay t p D O y k i) (hk : k < t.length) (hi : t.length ≤ i) :
    Pay t p D O y (k + 1) 0 := by
  have hp := hD.full
  refine ⟨h.len, fun b hb hbk => ?_, fun b hb hbk => ?_, fun j hj => h.rest j (by omega)⟩
  · have hpb := hp.at_ hb
    rcases Int.lt_or_le (p.getD b 0) k with q | q
    · exact h.fin b hb q
    · have hbe : p.getD b 0 = k := by omega
      obtain ⟨c1, c2, c3⟩ := h.cur b hb hbe
      rw [hbe, Int.toNat_natCast]
      obtain ⟨r, r1, r2, r3⟩ := hD.path b hb
      rcases List.eq_nil_or_concat r with e | ⟨M, a, e⟩
      · rw [e] at r3
        have : pwR t p [b] = 0 := rfl
        omega
      · rw [List.concat_eq_append] at e
        rw [e] at r1 r2 r3
        have h1 := hO.low a b M r1 r2 fun x hx => by have := hp.at_ (r2 x (by simp [hx])); omega
        have ha := hp.at_ (r2 a (by simp))
        have h2 := c3 (p.getD a 0).toNat (by omega)
        rw [hbe, Int.toNat_natCast] at h1
        omega
  · have h1 := h.rest (k + 1) (by omega)
    have h2 := hD.pos b hb
    rw [h1]
    exact ⟨by omega, by omega, fun i' hi' => by omega⟩
theorem Pay.price {t : List (List Int)} {p : List Int} {D : Nat → Int} {O : List (List Int)} {y : List Int} {k i : Nat} (hD : LeastP t p D) (h : Pay t p D O y k i) (hk : t.length ≤ k) : IsPrice t p y :=
  ⟨h.len, D, hD, fun b hb => h.fin b hb (by have := hD.full.at_ hb; omega)⟩
/-! ### What is left to the rows -/
def restOf (t : List (List Int)) (p x : List Int) : List Int := (List.range t.length).map fun i => gn t i (p.getD i 0).toNat - x.getD (p.getD i 0).toNat 0
theorem rest_is {t : List (List Int)} {p x r : List Int} (hl : r.length = t.length) (h : ∀ j, j < t.length → r.getD j 0 = gn t j (p.getD j 0).toNat - x.getD (p.getD j 0).toNat 0) : r = restOf t p x := by
  refine list_ext 0 (by rw [hl]; simp [restOf]) fun j hj => ?_
  rw [h j (by omega), getD_lt (restOf t p x) 0 j (by simp [restOf]; omega)]
  simp [restOf]
/-! ### Sets -/
theorem many_cut {z : Int} {n : Nat} (h : ∀ v, n ≤ v → has z v = false) : ∀ {m : Nat}, n ≤ m → many z m = many z n
  | 0, hm => by rw [show n = 0 by omega]
  | m + 1, hm => by
    by_cases e : n = m + 1
    · rw [e]
    · rw [many, h m (by omega), many_cut h (m := m) (by omega)]; simp
theorem Msk.of {n : Nat} {z : Int} (hn : n ≤ 6) (h0 : 0 ≤ z) (h1 : z < 1 * 2 ^ n) : Msk n z (many z 6) ∧ many z 6 ≤ n := by
  refine ⟨⟨h0, h1, rfl⟩, ?_⟩
  rw [many_cut (fun v hv => has_lt (n := n) h0 (by rw [← pow_cast]; exact h1) hv) hn]
  exact many_le z n
theorem many_gt {z : Int} (h0 : 0 < z) (h1 : z < 64) : 0 < many z 6 := by have := ones_step h0 h1; omega
theorem pw6 {k : Nat} (h : k < 6) : 0 ≤ (1 : Int) * 2 ^ k ∧ (1 : Int) * 2 ^ k ≤ 32 := by
  have h2 : ∀ k : Nat, k < 6 → 0 ≤ (1 : Int) * 2 ^ k ∧ (1 : Int) * 2 ^ k ≤ 32 := by decide
  exact h2 k h
structure TabS (t : List (List Int)) (B : List Int) (z : Int) : Prop where
  at_ : ∀ y : Int, 0 ≤ y → y < z → B.getD y.toNat 0 = (PM t (many y 6) y).2
theorem TabS.start {t : List (List Int)} {n : Nat} : TabS t (List.replicate n 0) 1 where
  at_ := fun y h0 h1 => by
    rw [zeros_get, show y = 0 by omega, ones_zero]; rfl
theorem TabS.in_ {t : List (List Int)} {B : List Int} {z : Int} (hG : Gains t) (h : TabS t B z) (hz : z ≤ 1 * 2 ^ t.length) {y : Int} (h0 : 0 ≤ y) (h1 : y < z) : -6000 ≤ B.getD y.toNat 0 ∧ B.getD y.toNat 0 ≤ 6000 := by
  have h6 := hG.n6
  obtain ⟨m1, m2⟩ := Msk.of h6 h0 (show y < 1 * 2 ^ t.length by omega)
  have := PM_in hG m2 m1
  rw [h.at_ y h0 h1]
  omega
structure TabS2 (t : List (List Int)) (B : List Int) (z : Int) (d k : Nat) : Prop where
  tab : TabS t B z
  cur : B.getD z.toNat 0 = (innP (gn t (t.length - (d + 1))) z (PM t d) (-1000 * ((t.length : Int) + 1)) k).2
theorem TabS.set {t : List (List Int)} {B : List Int} {z : Int} (h : TabS t B z) (hz : 0 ≤ z) (hl : z.toNat < B.length) (d : Nat) {low : Int} (hlow : low = -1000 * ((t.length : Int) + 1)) : TabS2 t (B.set z.toNat low) z d 0 := by
  refine ⟨⟨fun y h0 h1 => ?_⟩, ?_⟩
  · rw [getD_set_ne _ _ _ _ _ (by omega)]; exact h.at_ y h0 h1
  · rw [getD_set_self _ _ _ _ hl, innP]; exact hlow
theorem TabS2.yes {t : List (List Int)} {B : List Int} {z : Int} {d k : Nat} (h : TabS2 t B z d k) (hl : z.toNat < B.length) (hn : t.length ≤ 6) (hz : Msk t.length z (d + 1)) (hb : has z k = true) :
    TabS2 t (B.set z.toNat (max (B.getD z.toNat 0) (gn t (t.length - (d + 1)) k + B.getD (iandn z (1 * 2 ^ k)).toNat 0))) z d (k + 1) := by
  obtain ⟨c1, c2⟩ := hz.clear hn hb
  refine ⟨⟨fun y h0 h1 => ?_⟩, ?_⟩
  · have := hz.z0
    rw [getD_set_ne _ _ _ _ _ (by omega)]; exact h.tab.at_ y h0 h1
  · rw [getD_set_self _ _ _ _ hl, inn_max hb, h.cur, h.tab.at_ _ c1.z0 c2, c1.d]
theorem TabS2.no {t : List (List Int)} {B : List Int} {z : Int} {d k : Nat} (h : TabS2 t B z d k) (hb : has z k = false) : TabS2 t B z d (k + 1) :=
  ⟨h.tab, by rw [inn_skip hb]; exact h.cur⟩
theorem TabS2.end_ {t : List (List Int)} {B : List Int} {z : Int} {d k : Nat} (h : TabS2 t B z d k) (hk : k = t.length) (hz : Msk t.length z (d + 1)) : TabS t B (z + 1) where
  at_ := fun y h0 h1 => by
    by_cases e : y = z
    · rw [e, h.cur, hz.d, hk]; rfl
    · exact h.tab.at_ y h0 (by omega)
/-- What is picked, one behind the other. -/
structure Pick (t : List (List Int)) (z : Int) (o : List Int) : Prop where
  out : o ++ (PM t (many z 6) z).1 = (bestOf t).1
  len : o.length + many z 6 ≤ 6
theorem Pick.start {t : List (List Int)} (hG : Gains t) : Pick t (1 * 2 ^ t.length - 1) [] := by
  obtain ⟨h1, h2, h3⟩ := full_many t.length hG.n6
  exact ⟨by rw [h1, best_is hG]; rfl, by rw [h1]; have := hG.n6; simp; omega⟩
theorem Pick.end_ {t : List (List Int)} {o : List Int} (h : Pick t 0 o) : o = (bestOf t).1 := by
  have := h.out
  rw [ones_zero, PM, List.append_nil] at this
  exact this
theorem Pick.step {t : List (List Int)} {z : Int} {o : List Int} {d k0 : Nat} (h : Pick t z o) (hn : t.length ≤ 6) (hz : Msk t.length z (d + 1)) (hb : has z k0 = true) (h1 : (PM t (d + 1) z).1 = ((k0 : Nat) : Int) :: (PM t d (iandn z (1 * 2 ^ k0))).1) :
    Pick t (iandn z (1 * 2 ^ k0)) (o ++ [((k0 : Nat) : Int)]) := by
  obtain ⟨c1, _⟩ := hz.clear hn hb
  have h2 := h.out; have h3 := h.len
  rw [hz.d] at h2 h3
  refine ⟨?_, by rw [c1.d, List.length_append]; simp; omega⟩
  rw [c1.d, ← h2, h1, List.append_assoc]; rfl
theorem shr_le {z : Int} {k : Nat} (h : 0 ≤ z) : 0 ≤ z / 2 ^ k ∧ z / 2 ^ k ≤ z := by
  have h2 : (0 : Int) ≤ 2 ^ k := by rw [pow_nat]; exact Int.natCast_nonneg _
  exact ⟨Int.ediv_nonneg h h2, Int.ediv_le_self _ h⟩
/-! ### Bounds -/
theorem RelP.in_ {t : List (List Int)} {p : List Int} {D : Nat → Int} {x0 x : List Int} {i k : Nat} (hD : LeastP t p D) (h : RelP t p D x0 x i k) {j : Nat} (hj : j < t.length) : 0 ≤ x.getD j 0 ∧ x.getD j 0 ≤ 12000 := by
  obtain ⟨b, hb, he⟩ := hD.full.ex hj
  have h1 := h.up b hb
  have h2 := hD.pos b hb
  rw [he, Int.toNat_natCast] at h1
  omega
theorem IsPrice.in_ {t : List (List Int)} {p x : List Int} (h : IsPrice t p x) {j : Nat} (hj : j < t.length) : 0 ≤ x.getD j 0 ∧ x.getD j 0 ≤ 12000 := by
  obtain ⟨_, D, hD, h1⟩ := h
  obtain ⟨b, hb, he⟩ := hD.full.ex hj
  have h2 := h1 b hb
  have h3 := hD.pos b hb
  rw [he, Int.toNat_natCast] at h2
  omega
theorem FWs.in_ {t : List (List Int)} {p : List Int} {D : Nat → Int} {O0 O : List (List Int)} {m i k m0 : Nat} (hD : LeastP t p D) (h : FWs t p D O0 O m i k) (h0 : FW t p D O0 m0) {a b : Nat} (ha : a < t.length) (hb : b < t.length) : -12000 ≤ gn O a b ∧ gn O a b ≤ 12000 := by
  have h1 := h0.lo a b ha hb
  have h2 := h.ge a b
  obtain ⟨a', ha', hae⟩ := hD.full.ex ha
  obtain ⟨b', hb', hbe⟩ := hD.full.ex hb
  have h3 := h.up a' b' ha' hb'
  rw [hae, hbe, Int.toNat_natCast, Int.toNat_natCast] at h3
  have h4 := hD.pos a' ha'; have h5 := hD.pos b' hb'
  omega
theorem FW.in_ {t : List (List Int)} {p : List Int} {D : Nat → Int} {O : List (List Int)} {m : Nat} (hD : LeastP t p D) (h : FW t p D O m) {a b : Nat} (ha : a < t.length) (hb : b < t.length) : -12000 ≤ gn O a b ∧ gn O a b ≤ 12000 :=
  h.start.in_ hD h ha hb
theorem bestFold_drop {t : List (List Int)} {L : List (List Int)} {j : Nat} {c : List Int × Int} (h : j < L.length) : bestFold t (L.drop j) c = bestFold t (L.drop (j + 1)) (if c.2 < sumOf t (L.getD j []) then (L.getD j [], sumOf t (L.getD j [])) else c) := by
  rw [drop_getD L [] j h]; rfl
theorem bestFold_end {t : List (List Int)} {L : List (List Int)} {j : Nat} {c : List Int × Int} (h : L.length ≤ j) : bestFold t (L.drop j) c = c := by rw [List.drop_of_length_le h]; rfl
theorem sum_take {t : List (List Int)} (hG : Gains t) {q : List Int} (h : isFull t.length q) {i : Nat} (hi : i ≤ t.length) : -6000 ≤ sumOf t (q.take i) ∧ sumOf t (q.take i) ≤ 6000 := by
  have hl : (q.take i).length = i := by rw [List.length_take, h.1]; omega
  have h1 := sumFrom_in hG (p := q.take i) (i := 0) (by omega) fun x hx => h.in_ (List.mem_of_mem_take hx)
  rw [hl] at h1
  have := hG.n6
  unfold sumOf
  omega
end Go.Ab
