/- Of what one may take, and of what must come: nets with a source and a sink of their own: the plain laws. -/
import Derived.Test.YtdglhalkilneaaaPlBoth
import Derived.Test.YtdglhalkilneaaaPlIdx
namespace Go.Ab
/-- The arc of a node that gains, or that costs. -/
def gainA (n k x : Int) : List Arc := if 0 < x then [⟨n, k, x⟩] else if x < 0 then [⟨k, n + 1, -x⟩] else []
def gainAs (n : Int) : Int → List Int → List Arc
  | _, [] => []
  | k, x :: r => gainA n k x ++ gainAs n (k + 1) r
theorem gainAs_snoc (n x : Int) : ∀ (l : List Int) (k : Int), gainAs n k (l ++ [x]) = gainAs n k l ++ gainA n (k + l.length) x
  | [], k => by simp [gainAs]
  | y :: r, k => by
    simp only [List.cons_append, gainAs, gainAs_snoc n x r (k + 1), List.length_cons, List.append_assoc]
    rw [show k + 1 + (r.length : Int) = k + ((r.length + 1 : Nat) : Int) by omega]
theorem gainAs_step (n : Int) (l : List Int) (i : Nat) (h : i < l.length) : gainAs n 0 (l.take (i + 1)) = gainAs n 0 (l.take i) ++ gainA n i (l.getD i 0) := by
  rw [take_getD l 0 i h, gainAs_snoc]
  congr 2
  simp; omega
theorem gainA_len (n k x : Int) : (gainA n k x).length ≤ 1 := by unfold gainA; split; simp; split <;> simp
theorem gainAs_len (n : Int) : ∀ (l : List Int) (k : Int), (gainAs n k l).length ≤ l.length
  | [], _ => by simp [gainAs]
  | x :: r, k => by
    have := gainAs_len n r (k + 1)
    have := gainA_len n k x
    simp only [gainAs, List.length_append, List.length_cons]; omega
/-- All that is gained. -/
def allOf : List Int → Int
  | [] => 0
  | x :: r => (if 0 < x then x else 0) + allOf r
theorem allOf_snoc (x : Int) : ∀ l : List Int, allOf (l ++ [x]) = allOf l + (if 0 < x then x else 0)
  | [] => by simp [allOf]
  | y :: r => by simp only [List.cons_append, allOf, allOf_snoc x r]; omega
theorem allOf_step (l : List Int) (i : Nat) (h : i < l.length) : allOf (l.take (i + 1)) = allOf (l.take i) + (if 0 < l.getD i 0 then l.getD i 0 else 0) := by
  rw [take_getD l 0 i h, allOf_snoc]
theorem allOf_in {m : Int} (hm : 0 ≤ m) : ∀ {l : List Int}, (∀ x ∈ l, x ≤ m) → 0 ≤ allOf l ∧ allOf l ≤ m * (l.length : Int)
  | [], _ => by simp [allOf]
  | x :: r, h => by
    have h1 := allOf_in hm (l := r) (fun y hy => h y (List.mem_cons_of_mem _ hy))
    have h2 := h x List.mem_cons_self
    simp only [allOf, List.length_cons]
    rw [show m * ((r.length + 1 : Nat) : Int) = m * (r.length : Int) + m by rw [Int.natCast_add, Int.mul_add]; simp]
    split <;> omega
/-- What a set gains. -/
def gainOf (z : Int) : Int → List Int → Int
  | _, [] => 0
  | k, x :: r => x * bit z k + gainOf z (k + 1) r
theorem gainOf_snoc (z x : Int) : ∀ (l : List Int) (k : Int), gainOf z k (l ++ [x]) = gainOf z k l + x * bit z (k + l.length)
  | [], k => by simp [gainOf]
  | y :: r, k => by
    simp only [List.cons_append, gainOf, gainOf_snoc z x r (k + 1), List.length_cons]
    rw [show k + 1 + (r.length : Int) = k + ((r.length + 1 : Nat) : Int) by omega]; omega
theorem gainOf_step (z : Int) (l : List Int) (i : Nat) (h : i < l.length) : gainOf z 0 (l.take (i + 1)) = gainOf z 0 (l.take i) + l.getD i 0 * bit z (i : Int) := by
  rw [take_getD l 0 i h, gainOf_snoc]
  congr 3
  simp; omega
theorem gainOf_in {m z : Int} (hz : 0 ≤ z) (hm : 0 ≤ m) : ∀ {l : List Int} (k : Int), (∀ x ∈ l, -m ≤ x ∧ x ≤ m) → -(m * (l.length : Int)) ≤ gainOf z k l ∧ gainOf z k l ≤ m * (l.length : Int)
  | [], _, _ => by simp [gainOf]
  | x :: r, k, h => by
    have h1 := gainOf_in hz hm (l := r) (k + 1) (fun y hy => h y (List.mem_cons_of_mem _ hy))
    have h2 := h x List.mem_cons_self
    simp only [gainOf, List.length_cons]
    rw [show m * ((r.length + 1 : Nat) : Int) = m * (r.length : Int) + m by rw [Int.natCast_add, Int.mul_add]; simp]
    rcases bit_01 k hz with e | e <;> rw [e] <;> simp <;> omega
theorem gainOf_congr {a b : Int} : ∀ {l : List Int} {k : Int}, (∀ j : Nat, j < l.length → bit a (k + j) = bit b (k + j)) → gainOf a k l = gainOf b k l
  | [], _, _ => rfl
  | x :: r, k, h => by
    have h0 := h 0 (by simp)
    simp only [Int.natCast_zero, Int.add_zero] at h0
    have h1 := gainOf_congr (a := a) (b := b) (l := r) (k := k + 1) (fun j hj => by
      have := h (j + 1) (by simpa using hj)
      rw [show k + 1 + (j : Int) = k + ((j + 1 : Nat) : Int) by omega]; exact this)
    simp only [gainOf, h0, h1]
theorem capOf_gainA {n z : Int} (h1 : bit z n = 1) (h2 : bit z (n + 1) = 0) (k x : Int) : capOf (gainA n k x) z = (if 0 < x then x else 0) - x * bit z k := by
  unfold gainA
  split
  · simp only [capOf, h1, Int.mul_one]
    rw [Int.mul_sub]; omega
  · split
    · simp only [capOf, h2]
      rw [Int.neg_mul]; omega
    · have : x = 0 := by omega
      subst this; simp [capOf]
theorem capOf_gainAs {n z : Int} (h1 : bit z n = 1) (h2 : bit z (n + 1) = 0) : ∀ (l : List Int) (k : Int), capOf (gainAs n k l) z = allOf l - gainOf z k l
  | [], _ => rfl
  | x :: r, k => by
    simp only [gainAs, capOf_append, capOf_gainA h1 h2, capOf_gainAs h1 h2 r (k + 1), allOf, gainOf]; omega
theorem mem_gainAs {n : Int} {a : Arc} : ∀ {l : List Int} {k : Int}, a ∈ gainAs n k l → ∃ j : Nat, j < l.length ∧ a ∈ gainA n (k + j) (l.getD j 0)
  | x :: r, k, h => by
    rcases List.mem_append.1 h with h | h
    · exact ⟨0, by simp, by simpa using h⟩
    · obtain ⟨j, hj, ha⟩ := mem_gainAs h
      refine ⟨j + 1, by simpa using hj, ?_⟩
      rw [List.getD_cons_succ, show k + ((j + 1 : Nat) : Int) = k + 1 + (j : Int) by omega]; exact ha
theorem gainAs_ok {n m : Int} {l : List Int} (hl : (l.length : Int) = n) (hm : m ≤ 10000) (h : ∀ x ∈ l, -m ≤ x ∧ x ≤ m) : ∀ a ∈ gainAs n 0 l, ArcOk (n + 2) 0 a := by
  intro a ha
  obtain ⟨j, hj, hb⟩ := mem_gainAs ha
  have hx := h _ (getD_mem (d := (0 : Int)) hj)
  unfold gainA at hb
  split at hb
  · rw [List.mem_singleton] at hb; subst hb
    refine ⟨?_, ?_, ?_, ?_, ?_, ?_⟩ <;> simp only <;> omega
  · split at hb
    · rw [List.mem_singleton] at hb; subst hb
      refine ⟨?_, ?_, ?_, ?_, ?_, ?_⟩ <;> simp only <;> omega
    · cases hb

/-! ### The net of what one may take -/
def fullA (a : Arc) : Arc := ⟨a.src, a.dst, 10000⟩
def closeNet (g : List Int) (l : List Arc) : List Arc := gainAs g.length 0 g ++ l.map fullA
/-- Nothing is needed that is not taken. -/
def closed (l : List Arc) (z : Int) : Bool := l.all fun a => !(decide (bit z a.src = 1) && decide (bit z a.dst = 0))
theorem closed_iff {l : List Arc} {z : Int} : closed l z = true ↔ ∀ a ∈ l, bit z a.src = 1 → bit z a.dst ≠ 0 := by
  unfold closed
  rw [List.all_eq_true]
  refine ⟨fun h a ha h1 h2 => ?_, fun h a ha => ?_⟩
  · have := h a ha; rw [h1, h2] at this; simp at this
  · have := h a ha
    by_cases h1 : bit z a.src = 1
    · simp [h1, this h1]
    · simp [h1]
theorem closed_congr {a b : Int} {l : List Arc} {n : Int} (hl : ∀ a ∈ l, 0 ≤ a.src ∧ a.src < n ∧ 0 ≤ a.dst ∧ a.dst < n) (h : ∀ v, 0 ≤ v → v < n → bit a v = bit b v) : closed l a = closed l b := by
  rw [Bool.eq_iff_iff, closed_iff, closed_iff]
  refine ⟨fun hc x hx => ?_, fun hc x hx => ?_⟩
  · obtain ⟨h1, h2, h3, h4⟩ := hl x hx
    rw [← h _ h1 h2, ← h _ h3 h4]; exact hc x hx
  · obtain ⟨h1, h2, h3, h4⟩ := hl x hx
    rw [h _ h1 h2, h _ h3 h4]; exact hc x hx
theorem capOf_full {z : Int} (hz : 0 ≤ z) : ∀ {l : List Arc}, (closed l z = true → capOf (l.map fullA) z = 0) ∧ (closed l z = false → 10000 ≤ capOf (l.map fullA) z) ∧ 0 ≤ capOf (l.map fullA) z
  | [] => by simp [capOf, closed]
  | a :: r => by
    obtain ⟨h1, h2, h3⟩ := capOf_full hz (l := r)
    have hc : closed (a :: r) z = (!(decide (bit z a.src = 1) && decide (bit z a.dst = 0)) && closed r z) := rfl
    simp only [List.map_cons, capOf, fullA]
    rw [hc]
    rcases bit_01 a.src hz with e1 | e1 <;> rcases bit_01 a.dst hz with e2 | e2 <;> rw [e1, e2] <;> simp
    · exact ⟨h1, h2, h3⟩
    · exact ⟨h1, h2, h3⟩
    · omega
    · exact ⟨h1, h2, h3⟩
theorem capOf_close {g : List Int} {l : List Arc} {z : Int} (h1 : bit z g.length = 1) (h2 : bit z (g.length + 1) = 0) : capOf (closeNet g l) z = allOf g - gainOf z 0 g + capOf (l.map fullA) z := by
  unfold closeNet
  rw [capOf_append, capOf_gainAs h1 h2]
theorem gain_one {z : Int} (hz : 0 ≤ z) (k x : Int) : x * bit z k ≤ (if 0 < x then x else 0) := by
  rcases bit_01 k hz with e | e <;> rw [e]
  · rw [Int.mul_zero]; split <;> omega
  · rw [Int.mul_one]; split <;> omega
theorem gain_all {z : Int} (hz : 0 ≤ z) : ∀ (l : List Int) (k : Int), gainOf z k l ≤ allOf l
  | [], _ => Int.le_refl _
  | x :: r, k => by
    have h1 := gain_all hz r (k + 1)
    have h2 := gain_one hz k x
    simp only [allOf, gainOf]; omega
/-- What stays outside is not gained. -/
theorem gain_rest {z : Int} (hz : 0 ≤ z) : ∀ {l : List Int} {k : Int} {j : Nat}, j < l.length → bit z (k + j) = 0 → (if 0 < l.getD j 0 then l.getD j 0 else 0) ≤ allOf l - gainOf z k l
  | x :: r, k, 0, _, h => by
    have hr := gain_all hz r (k + 1)
    simp only [Int.natCast_zero, Int.add_zero] at h
    simp only [List.getD_cons_zero, allOf, gainOf, h, Int.mul_zero]
    omega
  | x :: r, k, j + 1, hj, h => by
    have h1 := gain_rest hz (l := r) (k := k + 1) (j := j) (by simpa using hj) (by rw [← h]; congr 1; omega)
    have h2 := gain_one hz k x
    simp only [List.getD_cons_succ, allOf, gainOf]
    omega
theorem all_but {m : Int} (hm : 0 ≤ m) : ∀ {l : List Int} {j : Nat}, (∀ x ∈ l, x ≤ m) → j < l.length → allOf l + m ≤ (if 0 < l.getD j 0 then l.getD j 0 else 0) + m * (l.length : Int)
  | x :: r, 0, h, _ => by
    have := allOf_in hm (l := r) (fun y hy => h y (List.mem_cons_of_mem _ hy))
    simp only [allOf, List.getD_cons_zero, List.length_cons]
    rw [show m * ((r.length + 1 : Nat) : Int) = m * (r.length : Int) + m by rw [Int.natCast_add, Int.mul_add]; simp]
    omega
  | x :: r, j + 1, h, hj => by
    have h1 := all_but hm (l := r) (j := j) (fun y hy => h y (List.mem_cons_of_mem _ hy)) (by simpa using hj)
    have h2 := h x List.mem_cons_self
    simp only [allOf, List.getD_cons_succ, List.length_cons]
    rw [show m * ((r.length + 1 : Nat) : Int) = m * (r.length : Int) + m by rw [Int.natCast_add, Int.mul_add]; simp]
    split <;> omega
structure CloseOk (g : List Int) (l : List Arc) : Prop where
  len : g.length ≤ 10
  llen : l.length ≤ 30
  gain : ∀ x ∈ g, -1000 ≤ x ∧ x ≤ 1000
  arc : ∀ a ∈ l, 0 ≤ a.src ∧ a.src < g.length ∧ 0 ≤ a.dst ∧ a.dst < g.length
theorem CloseOk.net {g : List Int} {l : List Arc} (h : CloseOk g l) : NOk (g.length + 2) g.length (g.length + 1) (closeNet g l) := by
  have h1 := h.len; have h2 := h.llen
  have h3 := gainAs_len (g.length : Int) g 0
  refine ⟨⟨by omega, by omega, by unfold closeNet; simp; omega, fun a ha => ?_⟩, by omega, by omega, by omega, by omega, by omega⟩
  rcases List.mem_append.1 ha with ha | ha
  · exact gainAs_ok (m := 1000) rfl (by omega) h.gain a ha
  · obtain ⟨b, hb, rfl⟩ := List.mem_map.1 ha
    obtain ⟨h1, h2, h3, h4⟩ := h.arc b hb
    unfold fullA
    refine ⟨?_, ?_, ?_, ?_, ?_, ?_⟩ <;> simp only <;> omega
/-- A set of nodes, as a side of the net. -/
theorem side_of {n : Nat} {z : Int} (h0 : 0 ≤ z) (h1 : z < ((2 ^ n : Nat) : Int)) : Parts (n + 2) n (n + 1) (ior z (1 * 2 ^ n)) ∧ ∀ v : Int, 0 ≤ v → v < n → bit (ior z (1 * 2 ^ n)) v = bit z v := by
  have hb : ∀ v, n + 2 ≤ v → has (ior z (1 * 2 ^ n)) v = false := fun v hv => by rw [has_ior, has_lt h0 h1 (by omega), has_pow]; simp; omega
  refine ⟨⟨ior0 _ _, ?_, ?_, ?_⟩, fun v v0 v1 => ?_⟩
  · have := lt_has (n := n + 2) (ior0 z (1 * 2 ^ n)) hb
    rw [show ((n : Int) + 2).toNat = n + 2 by omega]; exact this
  · rw [bit_yes (ior0 _ _), has_ior, has_pow]; simp
  · rw [bit_no (ior0 _ _), has_ior, has_lt h0 h1 (by omega), has_pow]; simp
  · rw [bit_has v (ior0 _ _), bit_has v h0, has_ior, has_pow]
    have : (decide (n = v.toNat)) = false := by simp; omega
    rw [this, Bool.or_false]
/-- The set of a side. -/
theorem set_of {n : Nat} {z : Int} (h0 : 0 ≤ z) : 0 ≤ iand z (1 * 2 ^ n - 1) ∧ iand z (1 * 2 ^ n - 1) < ((2 ^ n : Nat) : Int) ∧ ∀ v : Int, 0 ≤ v → v < n → bit (iand z (1 * 2 ^ n - 1)) v = bit z v := by
  have hb : ∀ v, n ≤ v → has (iand z (1 * 2 ^ n - 1)) v = false := fun v hv => by rw [has_iand, has_mask]; simp; omega
  refine ⟨iand0 _ _, lt_has (iand0 _ _) hb, fun v v0 v1 => ?_⟩
  rw [bit_has v (iand0 _ _), bit_has v h0, has_iand, has_mask]
  have : (decide (v.toNat < n)) = true := by simp; omega
  rw [this, Bool.and_true]
theorem gain_bits {n : Nat} {a b : Int} {g : List Int} (hg : g.length = n) (h : ∀ v : Int, 0 ≤ v → v < n → bit a v = bit b v) : gainOf a 0 g = gainOf b 0 g :=
  gainOf_congr fun j hj => by rw [Int.zero_add]; exact h _ (by omega) (by omega)
def gainBad (x : Int) : Bool := decide (x < -1000) || decide (1000 < x)
def needBad (n : Int) (a : Arc) : Bool := decide (min a.src a.dst < 0) || decide (n ≤ max a.src a.dst)
theorem gainBad_iff {x : Int} : gainBad x = true ↔ x < -1000 ∨ 1000 < x := by unfold gainBad; simp
theorem needBad_iff {n : Int} {a : Arc} : needBad n a = true ↔ a.src < 0 ∨ n ≤ a.src ∨ a.dst < 0 ∨ n ≤ a.dst := by
  unfold needBad; simp only [Bool.or_eq_true, decide_eq_true_eq]; omega
def closeErr (g : List Int) (l : List Arc) : Int := if 10 < g.length ∨ 30 < l.length then 2 else if g.any gainBad = true then 1 else if l.any (needBad g.length) = true then 4 else 0
theorem closeErr_ok {g : List Int} {l : List Arc} (h : closeErr g l = 0) : CloseOk g l := by
  unfold closeErr at h
  split at h
  · cases h
  · split at h
    · cases h
    · rename_i h1
      split at h
      · cases h
      · rename_i h2
        refine ⟨by omega, by omega, fun x hx => ?_, fun a ha => ?_⟩
        · have h3 := any_no (p := gainBad) (l := g) (by simpa using h1) x hx
          have := mt gainBad_iff.2 (by rw [h3]; simp); omega
        · have h3 := any_no (p := needBad g.length) (l := l) (by simpa using h2) a ha
          have := mt needBad_iff.2 (by rw [h3]; simp); omega
theorem mulbit_in {x m b : Int} (hm : 0 ≤ m) (hx : -m ≤ x ∧ x ≤ m) (hb : b = 0 ∨ b = 1) : -m ≤ x * b ∧ x * b ≤ m := by
  rcases hb with rfl | rfl
  · rw [Int.mul_zero]; omega
  · rw [Int.mul_one]; omega
/-- Needed, and not taken. -/
def strayA (z : Int) (a : Arc) : Bool := decide (bit z a.src = 1) && decide (bit z a.dst = 0)
theorem closed_stray (l : List Arc) (z : Int) : closed l z = !l.any (strayA z) := by
  rw [List.not_any_eq_all_not]; rfl
theorem gainA_two (n k x : Int) : (if 0 < x then [(⟨n, k, x⟩ : Arc)] else []) ++ (if x < 0 then [(⟨k, n + 1, -x⟩ : Arc)] else []) = gainA n k x := by
  unfold gainA
  by_cases h : 0 < x
  · rw [if_pos h, if_pos h, if_neg (by omega)]; rfl
  · rw [if_neg h, if_neg h]; rfl
def tstep (g : List Int) (l : List Arc) (x : Int × Int) (z : Int) : Int × Int :=
  if closed l z = true then (if z = 0 ∨ x.1 < gainOf z 0 g then (gainOf z 0 g, z) else if gainOf z 0 g = x.1 then (x.1, iand x.2 z) else x) else x
/-- The best gain, and the least set. -/
def takeOf (g : List Int) (l : List Arc) : Int × Int := (List.range (2 ^ g.length)).foldl (fun x (k : Nat) => tstep g l x (k : Int)) (0, 0)
theorem take_fold (g : List Int) (l : List Arc) : ∀ i : Nat, i = 0 ∨
    (0 ≤ ((List.range i).foldl (fun x (k : Nat) => tstep g l x (k : Int)) (0, 0)).2 ∧
    (∀ k : Nat, k < i → closed l k = true → gainOf k 0 g ≤ ((List.range i).foldl (fun x (k : Nat) => tstep g l x (k : Int)) (0, 0)).1) ∧
    (∃ k : Nat, k < i ∧ closed l k = true ∧ gainOf k 0 g = ((List.range i).foldl (fun x (k : Nat) => tstep g l x (k : Int)) (0, 0)).1) ∧
    (∀ k : Nat, k < i → closed l k = true → gainOf k 0 g = ((List.range i).foldl (fun x (k : Nat) => tstep g l x (k : Int)) (0, 0)).1 → sub ((List.range i).foldl (fun x (k : Nat) => tstep g l x (k : Int)) (0, 0)).2 k) ∧
    (∀ v, has ((List.range i).foldl (fun x (k : Nat) => tstep g l x (k : Int)) (0, 0)).2 v = false → ∃ k : Nat, k < i ∧ closed l k = true ∧ gainOf k 0 g = ((List.range i).foldl (fun x (k : Nat) => tstep g l x (k : Int)) (0, 0)).1 ∧ has (k : Int) v = false)) := by
  intro i
  induction i with
  | zero => exact .inl rfl
  | succ i ih =>
    right
    rw [List.range_succ, List.foldl_append]
    simp only [List.foldl_cons, List.foldl_nil]
    generalize (List.range i).foldl (fun x (k : Nat) => tstep g l x (k : Int)) (0, 0) = x at ih
    have hi0 : (0 : Int) ≤ (i : Int) := by omega
    by_cases hc : closed l (i : Int) = true
    · have hst : tstep g l x (i : Int) = if (i : Int) = 0 ∨ x.1 < gainOf (i : Int) 0 g then (gainOf (i : Int) 0 g, (i : Int)) else if gainOf (i : Int) 0 g = x.1 then (x.1, iand x.2 (i : Int)) else x := by
        rw [tstep, if_pos hc]
      rw [hst]
      by_cases hlt : (i : Int) = 0 ∨ x.1 < gainOf (i : Int) 0 g
      · rw [if_pos hlt]
        have hless : ∀ k : Nat, k < i → closed l k = true → gainOf k 0 g < gainOf (i : Int) 0 g := fun k hk hcl => by
          rcases ih with h | ⟨_, h1, _⟩
          · omega
          · have := h1 k hk hcl; omega
        refine ⟨hi0, fun k hk hcl => ?_, ⟨i, by omega, hc, rfl⟩, fun k hk hcl hgk => ?_, fun v hv => ⟨i, by omega, hc, rfl, hv⟩⟩
        · rcases Nat.lt_succ_iff_lt_or_eq.1 hk with h | h
          · exact Int.le_of_lt (hless k h hcl)
          · subst h; exact Int.le_refl _
        · rcases Nat.lt_succ_iff_lt_or_eq.1 hk with h | h
          · have := hless k h hcl; simp only at hgk; omega
          · subst h; exact sub_refl _
      · rw [if_neg hlt]
        rcases ih with h | ⟨l0, h1, ⟨k1, k1a, k1b, k1c⟩, h2, h3⟩
        · exact absurd (.inl (by omega)) hlt
        by_cases heq : gainOf (i : Int) 0 g = x.1
        · rw [if_pos heq]
          refine ⟨iand0 _ _, fun k hk hcl => ?_, ⟨k1, by omega, k1b, k1c⟩, fun k hk hcl hgk => ?_, fun v hv => ?_⟩
          · rcases Nat.lt_succ_iff_lt_or_eq.1 hk with h | h
            · exact h1 k h hcl
            · subst h; simp only; omega
          · rcases Nat.lt_succ_iff_lt_or_eq.1 hk with h | h
            · exact fun v hv => h2 k h hcl hgk v (by simp only [has_iand, Bool.and_eq_true] at hv; exact hv.1)
            · subst h; exact fun v hv => by simp only [has_iand, Bool.and_eq_true] at hv; exact hv.2
          · simp only [has_iand, Bool.and_eq_false_iff] at hv
            rcases hv with hv | hv
            · obtain ⟨k, e1, e2⟩ := h3 v hv; exact ⟨k, by omega, e2⟩
            · exact ⟨i, by omega, hc, heq, hv⟩
        · rw [if_neg heq]
          refine ⟨l0, fun k hk hcl => ?_, ⟨k1, by omega, k1b, k1c⟩, fun k hk hcl hgk => ?_, fun v hv => ?_⟩
          · rcases Nat.lt_succ_iff_lt_or_eq.1 hk with h | h
            · exact h1 k h hcl
            · subst h; omega
          · rcases Nat.lt_succ_iff_lt_or_eq.1 hk with h | h
            · exact h2 k h hcl hgk
            · subst h; exact absurd hgk heq
          · obtain ⟨k, e1, e2⟩ := h3 v hv; exact ⟨k, by omega, e2⟩
    · rw [show tstep g l x (i : Int) = x by rw [tstep, if_neg hc]]
      rcases ih with h | ⟨l0, h1, ⟨k1, k1a, k1b, k1c⟩, h2, h3⟩
      · subst h
        refine absurd ?_ hc
        rw [closed_iff]
        intro a _ h1
        rw [bit_yes (by omega)] at h1
        rw [show ((0 : Nat) : Int) = 0 by rfl, has_zero] at h1; cases h1
      · refine ⟨l0, fun k hk hcl => ?_, ⟨k1, by omega, k1b, k1c⟩, fun k hk hcl hgk => ?_, fun v hv => ?_⟩
        · rcases Nat.lt_succ_iff_lt_or_eq.1 hk with h | h
          · exact h1 k h hcl
          · subst h; exact absurd hcl hc
        · rcases Nat.lt_succ_iff_lt_or_eq.1 hk with h | h
          · exact h2 k h hcl hgk
          · subst h; exact absurd hcl hc
        · obtain ⟨k, e1, e2⟩ := h3 v hv; exact ⟨k, by omega, e2⟩
theorem parted_le {n s t : Int} {es : List Arc} (hg : GOk n es 0) {z : Int} (h : Parts n s t z) : (parted n s t es).1 ≤ capOf es z := by
  obtain ⟨z0, z1, z2, z3⟩ := h
  have hzn : ((z.toNat : Nat) : Int) = z := by omega
  rcases parted_fold (s := s) (t := t) hg (2 ^ n.toNat) with ⟨_, h2⟩ | ⟨_, h2⟩
  · exact absurd (by rw [hzn]; exact ⟨z2, z3⟩) (h2 z.toNat (by omega))
  · have := h2 z.toNat (by omega) (by rw [hzn]; exact z2) (by rw [hzn]; exact z3)
    rwa [hzn] at this
/-- The least side of the net is the least of the best sets. -/
theorem close_best {g : List Int} {l : List Arc} (h : CloseOk g l) {z : Int} (hz : MinCut (g.length + 2) g.length (g.length + 1) (closeNet g l) z) (hmin : ∀ w, MinCut (g.length + 2) g.length (g.length + 1) (closeNet g l) w → sub z w) :
    (takeOf g l).2 = iand z (1 * 2 ^ g.length - 1) ∧ (takeOf g l).1 = allOf g - (parted (g.length + 2) g.length (g.length + 1) (closeNet g l)).1 := by
  have hN := h.net
  have hG := hN.toGOk
  have hlen := h.len
  generalize hv : (parted (g.length + 2) g.length (g.length + 1) (closeNet g l)).1 = val at *
  have hall := allOf_in (m := 1000) (by omega) (fun x hx => (h.gain x hx).2)
  -- any closed set is a side
  have hside : ∀ k : Nat, k < 2 ^ g.length → closed l k = true → Parts (g.length + 2) g.length (g.length + 1) (ior k (1 * 2 ^ g.length)) ∧ capOf (closeNet g l) (ior k (1 * 2 ^ g.length)) = allOf g - gainOf k 0 g := by
    intro k hk hc
    obtain ⟨hp, hb⟩ := side_of (n := g.length) (z := (k : Int)) (by omega) (by omega)
    refine ⟨hp, ?_⟩
    rw [capOf_close hp.2.2.1 hp.2.2.2, gain_bits rfl hb, (capOf_full hp.1).1 (by rw [closed_congr h.arc hb]; exact hc)]; omega
  have hempty := hside 0 (Nat.pow_pos (by decide)) (by rw [closed_iff]; intro a _ h1; rw [bit_yes (by omega), show ((0 : Nat) : Int) = 0 by rfl, has_zero] at h1; cases h1)
  have hg0 : gainOf ((0 : Nat) : Int) 0 g = 0 := by
    have : ∀ (l : List Int) (k : Int), gainOf ((0 : Nat) : Int) k l = 0 := by
      intro l
      induction l with
      | nil => intro _; rfl
      | cons x r ih =>
        intro k
        have : bit ((0 : Nat) : Int) k = 0 := by rw [bit_no (by omega), show ((0 : Nat) : Int) = 0 by rfl, has_zero]
        simp only [gainOf, ih, this]; omega
    exact this g 0
  have hva : val ≤ allOf g := by have := parted_le hG hempty.1; rw [hv, hempty.2, hg0] at this; omega
  -- the least side's set
  obtain ⟨s0, s1, s2⟩ := set_of (n := g.length) hz.1.1
  have hcz := hz.2
  rw [hv, capOf_close hz.1.2.2.1 hz.1.2.2.2] at hcz
  have hcl : closed l z = true := by
    cases e : closed l z
    · exfalso
      have h1 := (capOf_full hz.1.1).2.1 e
      have hex : ∃ a ∈ l, bit z a.src = 1 ∧ bit z a.dst = 0 := by
        refine Classical.byContradiction fun hn => ?_
        have : closed l z = true := closed_iff.2 fun a ha h1 h2 => hn ⟨a, ha, h1, h2⟩
        rw [e] at this; cases this
      obtain ⟨a, ha, a1, a2⟩ := hex
      obtain ⟨_, _, d0, d1⟩ := h.arc a ha
      have hj : a.dst.toNat < g.length := by omega
      have h2 := gain_rest hz.1.1 (l := g) (k := 0) hj (by rw [show (0 : Int) + (a.dst.toNat : Int) = a.dst by omega]; exact a2)
      have h3 := all_but (m := 1000) (by omega) (fun x hx => (h.gain x hx).2) hj
      omega
    · rfl
  rw [(capOf_full hz.1.1).1 hcl] at hcz
  have hcs : closed l (iand z (1 * 2 ^ g.length - 1)) = true := by rw [closed_congr h.arc s2]; exact hcl
  have hgs : gainOf (iand z (1 * 2 ^ g.length - 1)) 0 g = gainOf z 0 g := gain_bits rfl s2
  generalize hset : iand z (1 * 2 ^ g.length - 1) = st at *
  have hstn : ((st.toNat : Nat) : Int) = st := by omega
  rcases take_fold g l (2 ^ g.length) with h0 | ⟨t0, t1, ⟨k, k1, k2, k3⟩, t2, t3⟩
  · have := Nat.pow_pos (n := g.length) (a := 2) (by decide); omega
  change 0 ≤ (takeOf g l).2 at t0
  change gainOf k 0 g = (takeOf g l).1 at k3
  change ∀ k : Nat, k < 2 ^ g.length → closed l k = true → gainOf k 0 g ≤ (takeOf g l).1 at t1
  change ∀ k : Nat, k < 2 ^ g.length → closed l k = true → gainOf k 0 g = (takeOf g l).1 → sub (takeOf g l).2 k at t2
  change ∀ v, has (takeOf g l).2 v = false → ∃ k : Nat, k < 2 ^ g.length ∧ closed l k = true ∧ gainOf k 0 g = (takeOf g l).1 ∧ has (k : Int) v = false at t3
  have hge := t1 st.toNat (by omega) (by rw [hstn]; exact hcs)
  rw [hstn] at hge
  have hle := parted_le hG (hside k k1 k2).1
  rw [hv, (hside k k1 k2).2] at hle
  have hbest : (takeOf g l).1 = allOf g - val := by omega
  refine ⟨sub_antisymm t0 s0 ?_ fun v hsv => ?_, hbest⟩
  · have := t2 st.toNat (by omega) (by rw [hstn]; exact hcs) (by rw [hstn]; omega)
    rwa [hstn] at this
  · cases e : has (takeOf g l).2 v
    · obtain ⟨j, j1, j2, j3, j4⟩ := t3 v e
      obtain ⟨p1, p2⟩ := hside j j1 j2
      have hv2 := hmin _ ⟨p1, by rw [p2, hv]; omega⟩ v (by rw [← hset, has_iand] at hsv; simp only [Bool.and_eq_true] at hsv; exact hsv.1)
      rw [has_ior, j4, has_pow] at hv2
      have hvn : v < g.length := by rw [← hset, has_iand, has_mask] at hsv; simp only [Bool.and_eq_true, decide_eq_true_eq] at hsv; exact hsv.2
      simp at hv2; omega
    · rfl
/-- What Best tells. -/
theorem close_low {g : List Int} {l : List Arc} (h : CloseOk g l) : (takeOf g l).2 = iand (parted (g.length + 2) g.length (g.length + 1) (closeNet g l)).2.1 (1 * 2 ^ g.length - 1) ∧ (takeOf g l).1 = allOf g - (parted (g.length + 2) g.length (g.length + 1) (closeNet g l)).1 :=
  close_best h (MinCut.low h.net).1 (MinCut.low h.net).2
theorem low_in {n s t : Int} {es : List Arc} (hok : NOk n s t es) : 0 ≤ (parted n s t es).2.1 ∧ (parted n s t es).2.1 ≤ 65535 ∧ 0 ≤ (parted n s t es).1 ∧ (parted n s t es).1 ≤ 600000 := by
  obtain ⟨h, _⟩ := MinCut.low hok
  have h2 := hok.n2
  have h3 := pow_le12 (n := n.toNat) (by omega)
  have h4 := capOf_in hok.toGOk h.1.1
  have h5 := h.2
  have h6 := h.1.2.1
  have h7 := h.1.1
  exact ⟨h7, by omega, by omega, by omega⟩
end Go.Ab
