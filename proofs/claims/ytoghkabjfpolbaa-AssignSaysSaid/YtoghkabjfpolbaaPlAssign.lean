/- Of who does what: the plain laws, part one: the best order. -/
import Derived.Test.YtoghkabjfpolbaaPlStable2
import Derived.Test.YtoghkabjfpolbaaPlBits
namespace Go.Ab
/-! ### The table -/
def offBad (least x : Int) : Bool := decide (x < least) || decide (1000 < x)
def rowsErr (n : Nat) (least : Int) : List (List Int) → Int
  | [] => 0
  | r :: rs => if r.length ≠ n then 3 else if r.any (offBad least) = true then 1 else rowsErr n least rs
def tabErr (t : List (List Int)) (least : Int) : Int := if 6 < t.length then 2 else rowsErr t.length least t
def gn (t : List (List Int)) (i k : Nat) : Int := (t.getD i []).getD k 0
structure Gains (t : List (List Int)) : Prop where
  n6 : t.length ≤ 6
  row : ∀ i, i < t.length → (t.getD i []).length = t.length
  at_ : ∀ i k : Nat, i < t.length → k < t.length → -1000 ≤ gn t i k ∧ gn t i k ≤ 1000
theorem rows_drop {n : Nat} {least : Int} {t : List (List Int)} {i : Nat} (h : i < t.length) : rowsErr n least (t.drop i) = if (t.getD i []).length ≠ n then 3 else if (t.getD i []).any (offBad least) = true then 1 else rowsErr n least (t.drop (i + 1)) := by
  rw [drop_getD t [] i h]; rfl
theorem rows_end {n : Nat} {least : Int} {t : List (List Int)} {i : Nat} (h : t.length ≤ i) : rowsErr n least (t.drop i) = 0 := by rw [List.drop_of_length_le h]; rfl
theorem rows_ok {n : Nat} {least : Int} : ∀ {t : List (List Int)}, rowsErr n least t = 0 → ∀ r ∈ t, r.length = n ∧ ∀ x ∈ r, least ≤ x ∧ x ≤ 1000
  | [], _, r, hr => by cases hr
  | a :: t, h, r, hr => by
    unfold rowsErr at h
    split at h
    · cases h
    · split at h
      · cases h
      · rename_i h1 h2
        rcases List.mem_cons.1 hr with rfl | hr
        · refine ⟨by omega, fun x hx => ?_⟩
          have h3 : offBad least x = false := by
            cases hc : offBad least x
            · rfl
            · exact absurd (List.any_eq_true.2 ⟨x, hx, hc⟩) h2
          unfold offBad at h3
          rw [Bool.or_eq_false_iff] at h3
          have := of_decide_eq_false h3.1; have := of_decide_eq_false h3.2
          omega
        · exact rows_ok h r hr
theorem gains_of {t : List (List Int)} (h : tabErr t (-1000) = 0) : Gains t := by
  unfold tabErr at h
  split at h
  · cases h
  · rename_i h6
    have hr := rows_ok h
    refine ⟨by omega, fun i hi => (hr _ (getD_mem hi)).1, fun i k hi hk => ?_⟩
    exact (hr _ (getD_mem hi)).2 _ (getD_mem (by rw [(hr _ (getD_mem hi)).1]; exact hk))
/-! ### The sum of an order -/
def sumFrom (t : List (List Int)) : Nat → List Int → Int
  | _, [] => 0
  | i, k :: r => gn t i k.toNat + sumFrom t (i + 1) r
def sumOf (t : List (List Int)) (p : List Int) : Int := sumFrom t 0 p
theorem sumFrom_snoc {t : List (List Int)} {k : Int} : ∀ {p : List Int} {i : Nat}, sumFrom t i (p ++ [k]) = sumFrom t i p + gn t (i + p.length) k.toNat
  | [], i => by simp [sumFrom]
  | x :: p, i => by
    rw [List.cons_append, sumFrom, sumFrom, sumFrom_snoc, List.length_cons, show i + 1 + p.length = i + (p.length + 1) by omega]; omega
theorem sumOf_snoc {t : List (List Int)} {p : List Int} {k : Int} : sumOf t (p ++ [k]) = sumOf t p + gn t p.length k.toNat := by
  unfold sumOf; rw [sumFrom_snoc, Nat.zero_add]
theorem sumOf_step {t : List (List Int)} {p : List Int} {i : Nat} (h : i < p.length) : sumOf t (p.take (i + 1)) = sumOf t (p.take i) + gn t i (p.getD i 0).toNat := by
  rw [take_getD p 0 i h, sumOf_snoc, List.length_take, Nat.min_eq_left (by omega)]
theorem sumFrom_set {t : List (List Int)} {v : Int} : ∀ {p : List Int} {i j : Nat}, j < p.length → sumFrom t i (p.set j v) = sumFrom t i p - gn t (i + j) (p.getD j 0).toNat + gn t (i + j) v.toNat
  | [], i, j, h => by simp at h
  | x :: p, i, 0, _ => by simp [sumFrom]; omega
  | x :: p, i, j + 1, h => by
    rw [List.set_cons_succ, sumFrom, sumFrom, sumFrom_set (by simpa using h), show i + 1 + j = i + (j + 1) by omega]
    simp; omega
theorem sumOf_set {t : List (List Int)} {v : Int} {p : List Int} {j : Nat} (h : j < p.length) : sumOf t (p.set j v) = sumOf t p - gn t j (p.getD j 0).toNat + gn t j v.toNat := by
  unfold sumOf; rw [sumFrom_set h, Nat.zero_add]
theorem sumFrom_in {t : List (List Int)} (hG : Gains t) : ∀ {p : List Int} {i : Nat}, i + p.length ≤ t.length → (∀ x ∈ p, 0 ≤ x ∧ x < t.length) → -1000 * (p.length : Int) ≤ sumFrom t i p ∧ sumFrom t i p ≤ 1000 * (p.length : Int)
  | [], i, _, _ => by simp [sumFrom]
  | x :: p, i, h, hx => by
    rw [List.length_cons] at h
    have h1 := sumFrom_in hG (p := p) (i := i + 1) (by omega) fun y hy => hx y (List.mem_cons_of_mem _ hy)
    have h2 := hx x List.mem_cons_self
    have h3 := hG.at_ i x.toNat (by omega) (by omega)
    rw [sumFrom, List.length_cons]
    omega
/-! ### Masks -/
theorem many_clear {z : Int} {k : Nat} (h : has z k = true) : ∀ {m : Nat}, many (iandn z (1 * 2 ^ k)) m + (if k < m then 1 else 0) = many z m
  | 0 => by simp [many]
  | m + 1 => by
    have ih := many_clear h (m := m)
    rw [many, many, has_iandn, has_pow]
    by_cases e : k = m
    · subst e
      rw [if_neg (by omega)] at ih
      rw [if_pos (show k < k + 1 by omega), h]
      simp only [decide_true, Bool.not_true, Bool.and_false, Bool.false_eq_true, if_false, if_true]
      omega
    · have : decide (k = m) = false := decide_eq_false e
      rw [this]
      simp only [Bool.not_false, Bool.and_true]
      generalize (if has z m = true then 1 else 0) = X
      by_cases e2 : k < m
      · rw [if_pos e2] at ih; rw [if_pos (by omega)]; omega
      · rw [if_neg e2] at ih; rw [if_neg (by omega)]; omega
theorem many_ex {z : Int} : ∀ {m : Nat}, many z m ≠ 0 → ∃ k, k < m ∧ has z k = true
  | 0, h => absurd rfl h
  | m + 1, h => by
    unfold many at h
    cases e : has z m
    · rw [e] at h
      obtain ⟨k, h1, h2⟩ := many_ex (m := m) (z := z) (by simpa using h)
      exact ⟨k, by omega, h2⟩
    · exact ⟨m, by omega, e⟩
theorem ones_all : (List.range 64).all (fun z => z == 0 || many (iand ((z : Nat) : Int) (((z : Nat) : Int) - 1)) 6 + 1 == many ((z : Nat) : Int) 6) = true := by decide +kernel
theorem ones_step {z : Int} (h0 : 0 < z) (h1 : z < 64) : many (iand z (z - 1)) 6 + 1 = many z 6 := by
  have h := List.all_eq_true.1 ones_all z.toNat (List.mem_range.2 (by omega))
  rw [Bool.or_eq_true, beq_iff_eq, beq_iff_eq, Int.toNat_of_nonneg (by omega)] at h
  rcases h with h | h
  · omega
  · exact h
theorem iand_le {a b : Int} (hb : 0 ≤ b) : iand a b ≤ b := by
  unfold iand
  have : a.toNat &&& b.toNat ≤ b.toNat := Nat.and_le_right
  omega
theorem ones_zero : many 0 6 = 0 := by decide +kernel
theorem full_many : ∀ n : Nat, n ≤ 6 → many (1 * 2 ^ n - 1) 6 = n ∧ (0 : Int) ≤ 1 * 2 ^ n - 1 ∧ (1 * 2 ^ n : Int) ≤ 64 := by
  intro n h
  have : n = 0 ∨ n = 1 ∨ n = 2 ∨ n = 3 ∨ n = 4 ∨ n = 5 ∨ n = 6 := by omega
  rcases this with rfl | rfl | rfl | rfl | rfl | rfl | rfl <;> decide +kernel
structure Msk (n : Nat) (z : Int) (d : Nat) : Prop where
  z0 : 0 ≤ z
  zn : z < 1 * 2 ^ n
  d : many z 6 = d
theorem pow_cast (n : Nat) : (1 * 2 ^ n : Int) = ((2 ^ n : Nat) : Int) := by rw [Int.one_mul]; norm_cast
theorem Msk.lt {n d : Nat} {z : Int} (h : Msk n z d) {k : Nat} (hk : has z k = true) : k < n := by
  by_cases e : k < n
  · exact e
  · have := has_lt (n := n) (v := k) h.z0 (by rw [← pow_cast]; exact h.zn) (by omega)
    rw [this] at hk; cases hk
theorem iandn_le {a b : Int} (ha : 0 ≤ a) : iandn a b ≤ a := by
  rcases Classical.em (iandn a b ≤ a) with q | q
  · exact q
  · exfalso
    have h1 : sub (iandn a b) a := fun v hv => by rw [has_iandn, Bool.and_eq_true] at hv; exact hv.1
    have h2 : (iandn a b).toNat &&& a.toNat = (iandn a b).toNat := by
      apply Nat.eq_of_testBit_eq
      intro i
      rw [Nat.testBit_and]
      have := h1 i
      unfold has at this
      cases e : (iandn a b).toNat.testBit i
      · rfl
      · rw [this e]; rfl
    have h3 : (iandn a b).toNat &&& a.toNat ≤ a.toNat := Nat.and_le_right
    have := iandn0 a b
    omega
theorem Msk.clear {n d : Nat} {z : Int} (hn : n ≤ 6) (h : Msk n z (d + 1)) {k : Nat} (hk : has z k = true) : Msk n (iandn z (1 * 2 ^ k)) d ∧ iandn z (1 * 2 ^ k) < z := by
  have hkn := h.lt hk
  have h1 := many_clear hk (m := 6)
  rw [if_pos (by omega), h.d] at h1
  have h2 := iandn_le (a := z) (b := 1 * 2 ^ k) h.z0
  have h3 := iandn0 z (1 * 2 ^ k)
  have h4 := h.zn
  have h5 : iandn z (1 * 2 ^ k) ≠ z := fun e => by rw [e, h.d] at h1; omega
  exact ⟨⟨h3, by omega, by omega⟩, by omega⟩
theorem Msk.ex {n d : Nat} {z : Int} (h : Msk n z (d + 1)) : ∃ k, k < n ∧ has z k = true := by
  obtain ⟨k, _, h2⟩ := many_ex (z := z) (m := 6) (by rw [h.d]; omega)
  exact ⟨k, h.lt h2, h2⟩
/-! ### The best of what is left -/
def innP (g : Nat → Int) (z : Int) (f : Int → List Int × Int) (low : Int) : Nat → List Int × Int
  | 0 => ([], low)
  | k + 1 => if has z k = true ∧ (innP g z f low k).2 < g k + (f (iandn z (1 * 2 ^ k))).2 then (((k : Nat) : Int) :: (f (iandn z (1 * 2 ^ k))).1, g k + (f (iandn z (1 * 2 ^ k))).2) else innP g z f low k
def PM (t : List (List Int)) : Nat → Int → List Int × Int
  | 0, _ => ([], 0)
  | d + 1, z => innP (gn t (t.length - (d + 1))) z (PM t d) (-1000 * ((t.length : Int) + 1)) t.length
theorem inn_max {g : Nat → Int} {z : Int} {f : Int → List Int × Int} {low : Int} {k : Nat} (h : has z k = true) : (innP g z f low (k + 1)).2 = max (innP g z f low k).2 (g k + (f (iandn z (1 * 2 ^ k))).2) := by
  rw [innP]
  split
  · show g k + _ = _; omega
  · rename_i q
    have : ¬ (innP g z f low k).2 < g k + (f (iandn z (1 * 2 ^ k))).2 := fun e => q ⟨h, e⟩
    omega
theorem inn_skip {g : Nat → Int} {z : Int} {f : Int → List Int × Int} {low : Int} {k : Nat} (h : has z k = false) : innP g z f low (k + 1) = innP g z f low k := by
  rw [innP, if_neg (by rw [h]; simp)]
theorem inn_spec {g : Nat → Int} {z : Int} {f : Int → List Int × Int} {low : Int} : ∀ {m : Nat}, (∀ k, k < m → has z k = true → low < g k + (f (iandn z (1 * 2 ^ k))).2) →
    (innP g z f low m = ([], low) ∧ ∀ k, k < m → has z k = false) ∨ ∃ k0, k0 < m ∧ has z k0 = true ∧ innP g z f low m = (((k0 : Nat) : Int) :: (f (iandn z (1 * 2 ^ k0))).1, g k0 + (f (iandn z (1 * 2 ^ k0))).2) ∧
      (∀ k, k < m → has z k = true → g k + (f (iandn z (1 * 2 ^ k))).2 ≤ g k0 + (f (iandn z (1 * 2 ^ k0))).2) ∧ ∀ k, k < k0 → has z k = true → g k + (f (iandn z (1 * 2 ^ k))).2 < g k0 + (f (iandn z (1 * 2 ^ k0))).2
  | 0, _ => .inl ⟨rfl, fun k hk => by omega⟩
  | m + 1, h => by
    have ih := inn_spec (m := m) fun k hk => h k (by omega)
    cases e : has z m
    · rw [inn_skip e]
      rcases ih with ⟨h1, h2⟩ | ⟨k0, h1, h2, h3, h4, h5⟩
      · exact .inl ⟨h1, fun k hk => by rcases Nat.lt_succ_iff_lt_or_eq.1 hk with q | q; exact h2 k q; rw [q]; exact e⟩
      · exact .inr ⟨k0, by omega, h2, h3, fun k hk hb => (by rcases Nat.lt_succ_iff_lt_or_eq.1 hk with q | q; exact h4 k q hb; rw [q, e] at hb; cases hb), h5⟩
    · right
      have hm := h m (by omega) e
      rw [innP]
      rcases ih with ⟨h1, h2⟩ | ⟨k0, h1, h2, h3, h4, h5⟩
      · rw [h1, if_pos ⟨e, hm⟩]
        exact ⟨m, by omega, e, rfl, fun k hk hb => by rcases Nat.lt_succ_iff_lt_or_eq.1 hk with q | q; rw [h2 k q] at hb; cases hb; rw [q]; exact Int.le_refl _, fun k hk hb => by rw [h2 k hk] at hb; cases hb⟩
      · rw [h3]
        by_cases q : g k0 + (f (iandn z (1 * 2 ^ k0))).2 < g m + (f (iandn z (1 * 2 ^ m))).2
        · rw [if_pos ⟨e, q⟩]
          exact ⟨m, by omega, e, rfl, fun k hk hb => by rcases Nat.lt_succ_iff_lt_or_eq.1 hk with r | r; have := h4 k r hb; omega; rw [r]; exact Int.le_refl _, fun k hk hb => by have := h4 k hk hb; omega⟩
        · rw [if_neg fun r => q r.2]
          exact ⟨k0, by omega, h2, rfl, fun k hk hb => by rcases Nat.lt_succ_iff_lt_or_eq.1 hk with r | r; exact h4 k r hb; rw [r]; omega, h5⟩
theorem PM_in {t : List (List Int)} (hG : Gains t) : ∀ {d : Nat} {z : Int}, d ≤ t.length → Msk t.length z d → -1000 * (d : Int) ≤ (PM t d z).2 ∧ (PM t d z).2 ≤ 1000 * (d : Int)
  | 0, z, _, _ => by simp [PM]
  | d + 1, z, hd, hz => by
    have h6 := hG.n6
    have hv : ∀ k, k < t.length → has z k = true → -1000 * ((d : Int) + 1) ≤ gn t (t.length - (d + 1)) k + (PM t d (iandn z (1 * 2 ^ k))).2 ∧ gn t (t.length - (d + 1)) k + (PM t d (iandn z (1 * 2 ^ k))).2 ≤ 1000 * ((d : Int) + 1) := fun k hk hb => by
      have h1 := PM_in hG (d := d) (by omega) (hz.clear h6 hb).1
      have h2 := hG.at_ (t.length - (d + 1)) k (by omega) hk
      omega
    rcases inn_spec (g := gn t (t.length - (d + 1))) (z := z) (f := PM t d) (low := -1000 * ((t.length : Int) + 1)) (m := t.length) (fun k hk hb => by have := hv k hk hb; omega) with ⟨_, h2⟩ | ⟨k0, h1, h2, h3, _⟩
    · obtain ⟨k, hk, hb⟩ := hz.ex
      rw [h2 k hk] at hb; cases hb
    · have := hv k0 h1 h2
      rw [PM, h3]
      show -1000 * ((d + 1 : Nat) : Int) ≤ gn t (t.length - (d + 1)) k0 + (PM t d (iandn z (1 * 2 ^ k0))).2 ∧ gn t (t.length - (d + 1)) k0 + (PM t d (iandn z (1 * 2 ^ k0))).2 ≤ 1000 * ((d + 1 : Nat) : Int)
      omega
theorem PM_val {t : List (List Int)} (hG : Gains t) {d : Nat} {z : Int} (hd : d + 1 ≤ t.length) (hz : Msk t.length z (d + 1)) {k : Nat} (hk : k < t.length) (hb : has z k = true) :
    -1000 * ((t.length : Int) + 1) < gn t (t.length - (d + 1)) k + (PM t d (iandn z (1 * 2 ^ k))).2 := by
  have h1 := PM_in hG (d := d) (by omega) (hz.clear hG.n6 hb).1
  have h2 := hG.at_ (t.length - (d + 1)) k (by omega) hk
  omega
theorem PM_head {t : List (List Int)} (hG : Gains t) {d : Nat} {z : Int} (hd : d + 1 ≤ t.length) (hz : Msk t.length z (d + 1)) :
    ∃ k0, k0 < t.length ∧ has z k0 = true ∧ (PM t (d + 1) z).1 = ((k0 : Nat) : Int) :: (PM t d (iandn z (1 * 2 ^ k0))).1 ∧ (PM t (d + 1) z).2 = gn t (t.length - (d + 1)) k0 + (PM t d (iandn z (1 * 2 ^ k0))).2 ∧
      ∀ k, k < k0 → has z k = true → (PM t (d + 1) z).2 ≠ gn t (t.length - (d + 1)) k + (PM t d (iandn z (1 * 2 ^ k))).2 := by
  rcases inn_spec (g := gn t (t.length - (d + 1))) (z := z) (f := PM t d) (low := -1000 * ((t.length : Int) + 1)) (m := t.length) (fun k hk hb => PM_val hG hd hz hk hb) with ⟨_, h2⟩ | ⟨k0, h1, h2, h3, _, h5⟩
  · obtain ⟨k, hk, hb⟩ := hz.ex
    rw [h2 k hk] at hb; cases hb
  · refine ⟨k0, h1, h2, by rw [PM, h3], by rw [PM, h3], fun k hk hb e => ?_⟩
    have := h5 k hk hb
    rw [PM, h3] at e
    simp only at e
    omega
/-! ### The first best of all orders -/
def bestFold (t : List (List Int)) : List (List Int) → List Int × Int → List Int × Int
  | [], c => c
  | p :: r, c => bestFold t r (if c.2 < sumOf t p then (p, sumOf t p) else c)
def bestOf (t : List (List Int)) : List Int × Int := bestFold t (ordersOf t.length) ([], -1073741824)
theorem bestFold_append {t : List (List Int)} : ∀ {a b : List (List Int)} {c : List Int × Int}, bestFold t (a ++ b) c = bestFold t b (bestFold t a c)
  | [], _, _ => rfl
  | p :: a, b, c => by rw [List.cons_append, bestFold, bestFold_append, bestFold]
def ordFrom (n : Nat) : Nat → List (List Int) → List (List Int)
  | 0, L => L
  | d + 1, L => ordFrom n d (ordStep n L)
theorem ordStep_append {n : Nat} : ∀ {a b : List (List Int)}, ordStep n (a ++ b) = ordStep n a ++ ordStep n b
  | [], _ => rfl
  | l :: a, b => by rw [List.cons_append, ordStep, ordStep, ordStep_append, List.append_assoc]
theorem ordFrom_append {n : Nat} : ∀ {d : Nat} {a b : List (List Int)}, ordFrom n d (a ++ b) = ordFrom n d a ++ ordFrom n d b
  | 0, _, _ => rfl
  | d + 1, a, b => by rw [ordFrom, ordStep_append, ordFrom_append]; rfl
theorem ordFrom_nil {n : Nat} : ∀ {d : Nat}, ordFrom n d [] = []
  | 0 => rfl
  | d + 1 => by rw [ordFrom]; exact ordFrom_nil
theorem ordFrom_iter {n : Nat} : ∀ {d r : Nat}, ordFrom n d (ordIter n r) = ordIter n (r + d)
  | 0, r => rfl
  | d + 1, r => by
    rw [ordFrom, show ordStep n (ordIter n r) = ordIter n (r + 1) from rfl, ordFrom_iter, show r + 1 + d = r + (d + 1) by omega]
def combP (l : List Int) (S low : Int) (c a : List Int × Int) : List Int × Int := if a.2 = low then c else if c.2 < S + a.2 then (l ++ a.1, S + a.2) else c
theorem fold_is {t : List (List Int)} (hG : Gains t) : ∀ {d : Nat} {l : List Int} {z : Int} {c : List Int × Int}, l.length + d = t.length → (∀ k, k < t.length → (has z k = true ↔ ((k : Nat) : Int) ∉ l)) → Msk t.length z d →
    bestFold t (ordFrom t.length d [l]) c = if c.2 < sumOf t l + (PM t d z).2 then (l ++ (PM t d z).1, sumOf t l + (PM t d z).2) else c
  | 0, l, z, c, _, _, _ => by
    show bestFold t [l] c = _
    rw [bestFold, bestFold, PM, Int.add_zero, List.append_nil]
  | d + 1, l, z, c, hl, hlz, hz => by
    have h6 := hG.n6
    have inner : ∀ (m k : Nat) (cur : List Int × Int), k + m = t.length → cur = combP l (sumOf t l) (-1000 * ((t.length : Int) + 1)) c (innP (gn t (t.length - (d + 1))) z (PM t d) (-1000 * ((t.length : Int) + 1)) k) →
        bestFold t (ordFrom t.length d (extFrom l k m)) cur = combP l (sumOf t l) (-1000 * ((t.length : Int) + 1)) c (PM t (d + 1) z) := by
      intro m
      induction m with
      | zero =>
        intro k cur hk hc
        rw [extFrom, ordFrom_nil, bestFold, hc, PM, show k = t.length by omega]
      | succ m ih =>
        intro k cur hk hc
        rw [extFrom, ordFrom_append, bestFold_append]
        refine ih (k + 1) _ (by omega) ?_
        cases hb : has z k
        · have hkl : ((k : Nat) : Int) ∈ l := by
            rcases Classical.em (((k : Nat) : Int) ∈ l) with q | q
            · exact q
            · rw [(hlz k (by omega)).2 q] at hb; cases hb
          rw [if_pos (mem_rk.1 hkl), ordFrom_nil, bestFold, inn_skip hb]; exact hc
        · have hkl := (hlz k (by omega)).1 hb
          rw [if_neg (fun q => hkl (mem_rk.2 q))]
          have hclr := hz.clear h6 hb
          rw [fold_is hG (d := d) (l := l ++ [((k : Nat) : Int)]) (z := iandn z (1 * 2 ^ k)) (by rw [List.length_append]; simp; omega) (fun j hj => by
            rw [has_iandn, has_pow, Bool.and_eq_true, hlz j hj, List.mem_append, List.mem_singleton]
            simp only [Bool.not_eq_true', decide_eq_false_iff_not]
            constructor
            · rintro ⟨q1, q2⟩ (q | q)
              · exact q1 q
              · exact q2 (by omega)
            · intro q; exact ⟨fun r => q (.inl r), fun r => q (.inr (by omega))⟩) hclr.1, sumOf_snoc, Int.toNat_natCast, show l.length = t.length - (d + 1) by omega]
          have hv := PM_val hG (by omega) hz (show k < t.length by omega) hb
          rw [innP]
          generalize innP (gn t (t.length - (d + 1))) z (PM t d) (-1000 * ((t.length : Int) + 1)) k = A at hc ⊢
          generalize (PM t d (iandn z (1 * 2 ^ k))) = B at hv ⊢
          generalize -1000 * ((t.length : Int) + 1) = low at hc hv ⊢
          generalize gn t (t.length - (d + 1)) k = G at hv ⊢
          rw [hc]
          unfold combP
          rw [show sumOf t l + G + B.2 = sumOf t l + (G + B.2) by omega, List.append_assoc, List.singleton_append]
          by_cases e1 : A.2 = low
          · have hif : (if has z k = true ∧ A.2 < G + B.2 then (((k : Nat) : Int) :: B.1, G + B.2) else A) = (((k : Nat) : Int) :: B.1, G + B.2) := if_pos ⟨hb, by omega⟩
            rw [if_pos e1, hif]
            show _ = if G + B.2 = low then c else if c.2 < sumOf t l + (G + B.2) then _ else c
            rw [if_neg (show ¬ G + B.2 = low by omega)]
          · rw [if_neg e1]
            by_cases e2 : A.2 < G + B.2
            · have hif : (if has z k = true ∧ A.2 < G + B.2 then (((k : Nat) : Int) :: B.1, G + B.2) else A) = (((k : Nat) : Int) :: B.1, G + B.2) := if_pos ⟨hb, e2⟩
              rw [hif]
              show _ = if G + B.2 = low then c else if c.2 < sumOf t l + (G + B.2) then _ else c
              rw [if_neg (show ¬ G + B.2 = low by omega)]
              by_cases e3 : c.2 < sumOf t l + A.2
              · rw [if_pos e3]
                show (if sumOf t l + A.2 < sumOf t l + (G + B.2) then _ else _) = _
                rw [if_pos (by omega), if_pos (by omega)]
              · rw [if_neg e3]
            · have hif : (if has z k = true ∧ A.2 < G + B.2 then (((k : Nat) : Int) :: B.1, G + B.2) else A) = A := if_neg fun q => e2 q.2
              rw [hif, if_neg e1]
              by_cases e3 : c.2 < sumOf t l + A.2
              · rw [if_pos e3]
                show (if sumOf t l + A.2 < sumOf t l + (G + B.2) then _ else _) = _
                rw [if_neg (by omega)]
              · rw [if_neg e3, if_neg (by omega)]
    have h1 := inner t.length 0 c (by omega) (by rw [innP, combP, if_pos rfl])
    rw [ordFrom, ordStep, ordStep, List.append_nil]
    show bestFold t (ordFrom t.length d (extFrom l 0 t.length)) c = _
    rw [h1, combP]
    obtain ⟨k0, q1, q2, _, q4, _⟩ := PM_head hG (by omega) hz
    have hv := PM_val hG (by omega) hz q1 q2
    rw [if_neg (by omega)]
theorem best_is {t : List (List Int)} (hG : Gains t) : bestOf t = PM t t.length (1 * 2 ^ t.length - 1) := by
  obtain ⟨h1, h2, h3⟩ := full_many t.length hG.n6
  have h4 := fold_is hG (d := t.length) (l := []) (z := 1 * 2 ^ t.length - 1) (c := ([], -1073741824)) (by simp) (fun k hk => by rw [has_mask]; simp [hk]) ⟨h2, by omega, h1⟩
  have h5 := PM_in hG (d := t.length) (z := 1 * 2 ^ t.length - 1) (Nat.le_refl _) ⟨h2, by omega, h1⟩
  have h6 := hG.n6
  unfold bestOf ordersOf
  rw [show ordIter t.length t.length = ordFrom t.length t.length [[]] by rw [show ([[]] : List (List Int)) = ordIter t.length 0 from rfl, ordFrom_iter, Nat.zero_add], h4]
  have h7 : sumOf t [] = 0 := rfl
  rw [h7, Int.zero_add, if_pos (show (-1073741824 : Int) < _ by omega), List.nil_append]
theorem bestFold_max {t : List (List Int)} : ∀ {L : List (List Int)} {c : List Int × Int}, (∀ q ∈ L, sumOf t q ≤ (bestFold t L c).2) ∧ c.2 ≤ (bestFold t L c).2 ∧ (bestFold t L c = c ∨ ((bestFold t L c).1 ∈ L ∧ sumOf t (bestFold t L c).1 = (bestFold t L c).2))
  | [], c => ⟨fun q hq => (by cases hq), Int.le_refl _, .inl rfl⟩
  | p :: L, c => by
    rw [bestFold]
    obtain ⟨h1, h2, h3⟩ := bestFold_max (t := t) (L := L) (c := if c.2 < sumOf t p then (p, sumOf t p) else c)
    by_cases e : c.2 < sumOf t p
    · rw [if_pos e] at h1 h2 h3 ⊢
      simp only at h2
      refine ⟨fun q hq => ?_, by omega, .inr ?_⟩
      · rcases List.mem_cons.1 hq with rfl | hq
        · exact h2
        · exact h1 q hq
      · rcases h3 with h3 | ⟨h3, h4⟩
        · rw [h3]; exact ⟨List.mem_cons_self, rfl⟩
        · exact ⟨List.mem_cons_of_mem _ h3, h4⟩
    · rw [if_neg e] at h1 h2 h3 ⊢
      refine ⟨fun q hq => ?_, h2, ?_⟩
      · rcases List.mem_cons.1 hq with rfl | hq
        · omega
        · exact h1 q hq
      · rcases h3 with h3 | ⟨h3, h4⟩
        · exact .inl h3
        · exact .inr ⟨List.mem_cons_of_mem _ h3, h4⟩
theorem ids_full (n : Nat) : isFull n (idsOf n) := ⟨ids_len n, fun k hk => ids_mem.2 ⟨k, hk, rfl⟩⟩
theorem sum_full {t : List (List Int)} (hG : Gains t) {q : List Int} (h : isFull t.length q) : -6000 ≤ sumOf t q ∧ sumOf t q ≤ 6000 := by
  have h1 := sumFrom_in hG (p := q) (i := 0) (by rw [h.1]; omega) fun x hx => h.in_ hx
  rw [h.1] at h1
  have := hG.n6
  unfold sumOf
  omega
theorem best_spec {t : List (List Int)} (hG : Gains t) : isFull t.length (bestOf t).1 ∧ sumOf t (bestOf t).1 = (bestOf t).2 ∧ ∀ q, isFull t.length q → sumOf t q ≤ (bestOf t).2 := by
  obtain ⟨h1, _, h3⟩ := bestFold_max (t := t) (L := ordersOf t.length) (c := ([], -1073741824))
  have h4 : ∀ q, isFull t.length q → sumOf t q ≤ (bestOf t).2 := fun q hq => h1 q (orders_mem.2 hq)
  have h5 := h4 _ (ids_full t.length)
  have h6 := sum_full hG (ids_full t.length)
  rcases h3 with h3 | ⟨h3, h7⟩
  · exfalso
    have : (bestOf t).2 = -1073741824 := by unfold bestOf; rw [h3]
    omega
  · exact ⟨orders_mem.1 h3, h7, h4⟩
end Go.Ab
