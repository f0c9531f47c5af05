/- Of rounds that must take something: the plain laws. -/
import Derived.Test.YtdglhalkilneaaaPlClose
namespace Go.Ab
def needA (a : Nd) : Arc := ⟨a.src, a.dst, a.cap - a.low⟩
/-- What must come to a node, less what must go. -/
def comeOf : List Nd → Int → Int
  | [], _ => 0
  | a :: r, v => (if a.dst = v then a.low else 0) - (if a.src = v then a.low else 0) + comeOf r v
def comes (n : Int) (l : List Nd) : List Int := (List.range n.toNat).map fun (k : Nat) => comeOf l (k : Int)
def needNet (n : Int) (l : List Nd) : List Arc := l.map needA ++ gainAs n 0 (comes n l)
def needErrs (n : Int) : List Nd → Int
  | [] => 0
  | a :: r => if a.src < 0 ∨ n ≤ a.src ∨ a.dst < 0 ∨ n ≤ a.dst then 4 else if a.low < 0 ∨ a.cap < a.low ∨ 333 < a.cap then 1 else needErrs n r
def needErr (n : Int) (l : List Nd) : Int := if n < 1 ∨ 10 < n then 1 else if 30 < l.length then 2 else needErrs n l
structure NdOk (n : Int) (a : Nd) : Prop where
  s0 : 0 ≤ a.src
  s1 : a.src < n
  d0 : 0 ≤ a.dst
  d1 : a.dst < n
  l0 : 0 ≤ a.low
  l1 : a.low ≤ a.cap
  c1 : a.cap ≤ 333
structure NeOk (n : Int) (l : List Nd) : Prop where
  n1 : 1 ≤ n
  n2 : n ≤ 10
  len : l.length ≤ 30
  arc : ∀ a ∈ l, NdOk n a
theorem needErr_ok {n : Int} {l : List Nd} (h : needErr n l = 0) : NeOk n l := by
  unfold needErr at h
  split at h
  · cases h
  · split at h
    · cases h
    · refine ⟨by omega, by omega, by omega, ?_⟩
      rename_i hn hl
      clear hn hl
      induction l with
      | nil => intro a ha; cases ha
      | cons b r ih =>
        unfold needErrs at h
        split at h
        · cases h
        · split at h
          · cases h
          · intro a ha
            rcases List.mem_cons.1 ha with rfl | ha
            · exact ⟨by omega, by omega, by omega, by omega, by omega, by omega, by omega⟩
            · exact ih h a ha
theorem NeOk.at_ {n : Int} {l : List Nd} (h : NeOk n l) {i : Nat} (hi : i < l.length) : NdOk n (l.getD i default) := h.arc _ (getD_mem hi)
theorem comes_len (n : Int) (l : List Nd) : (comes n l).length = n.toNat := by unfold comes; simp
theorem comes_get {n : Int} {l : List Nd} {k : Nat} (h : k < n.toNat) : (comes n l).getD k 0 = comeOf l (k : Int) := by
  unfold comes
  rw [List.getD_eq_getElem?_getD, List.getElem?_map, List.getElem?_range h]; rfl
theorem comeOf_in {n : Int} : ∀ {l : List Nd} (v : Int), (∀ a ∈ l, NdOk n a) → -(333 * (l.length : Int)) ≤ comeOf l v ∧ comeOf l v ≤ 333 * (l.length : Int)
  | [], _, _ => by simp [comeOf]
  | a :: r, v, h => by
    have h1 := comeOf_in (l := r) v (fun b hb => h b (List.mem_cons_of_mem _ hb))
    obtain ⟨_, _, _, _, h2, h3, h4⟩ := h a List.mem_cons_self
    simp only [comeOf, List.length_cons]
    split <;> split <;> omega
theorem comeOf_snoc (a : Nd) (v : Int) : ∀ l : List Nd, comeOf (l ++ [a]) v = comeOf l v + ((if a.dst = v then a.low else 0) - (if a.src = v then a.low else 0))
  | [] => by simp [comeOf]
  | b :: r => by simp only [List.cons_append, comeOf, comeOf_snoc a v r]; omega
/-- What is asked into a set, and what goes out of it. -/
def intoOf (z : Int) : List Nd → Int
  | [] => 0
  | a :: r => (if bit z a.src = 0 ∧ bit z a.dst = 1 then a.low else 0) + intoOf z r
def outOf (z : Int) : List Nd → Int
  | [] => 0
  | a :: r => (if bit z a.src = 1 ∧ bit z a.dst = 0 then a.cap else 0) + outOf z r
def strains (z : Int) (l : List Nd) : Bool := decide (outOf z l < intoOf z l)
/-- The sum over a set's nodes. -/
theorem gainOf_nodes (z : Int) : ∀ (m k : Nat) (g : Int → Int), gainOf z (k : Int) ((List.range' k m).map fun (j : Nat) => g (j : Int)) = nodeSum (fun v => bit z v * g v) k m
  | 0, _, _ => rfl
  | m + 1, k, g => by
    rw [List.range'_succ, List.map_cons]
    simp only [gainOf, nodeSum]
    rw [← gainOf_nodes z m (k + 1) g, Int.mul_comm]
    rfl
theorem gain_comes (z n : Int) (l : List Nd) : gainOf z 0 (comes n l) = nodeSum (fun v => bit z v * comeOf l v) 0 n.toNat := by
  have := gainOf_nodes z n.toNat 0 (comeOf l)
  unfold comes
  rw [List.range_eq_range']
  exact this
theorem come_sides {n z : Int} (hz : 0 ≤ z) : ∀ {l : List Nd}, (∀ a ∈ l, NdOk n a) → nodeSum (fun v => bit z v * comeOf l v) 0 n.toNat + outOf z l = intoOf z l + capOf (l.map needA) z
  | [], _ => by
    rw [nodeSum_zero (fun j _ _ => by simp [comeOf])]; simp [outOf, intoOf, capOf]
  | a :: r, h => by
    have ih := come_sides hz (l := r) (fun b hb => h b (List.mem_cons_of_mem _ hb))
    obtain ⟨h1, h2, h3, h4, h5, h6, h7⟩ := h a List.mem_cons_self
    have e1 : nodeSum (fun v => bit z v * comeOf (a :: r) v) 0 n.toNat = nodeSum (fun v => (bit z v * (if a.dst = v then a.low else 0) + bit z v * (- (if a.src = v then a.low else 0))) + bit z v * comeOf r v) 0 n.toNat :=
      nodeSum_congr fun j _ _ => by
        simp only [comeOf]
        rw [← Int.mul_add, ← Int.mul_add]
        congr 1
    rw [e1, nodeSum_add, nodeSum_add]
    rw [nodeSum_one (v := a.dst) (m := n.toNat) (k := 0) (by omega) (by omega) (fun j _ _ hj => by rw [if_neg (fun e => hj e.symm), Int.mul_zero])]
    rw [nodeSum_one (v := a.src) (m := n.toNat) (k := 0) (by omega) (by omega) (fun j _ _ hj => by rw [if_neg (fun e => hj e.symm)]; simp)]
    rw [if_pos rfl, if_pos rfl]
    simp only [outOf, intoOf, List.map_cons, capOf, needA]
    rcases bit_01 a.src hz with b1 | b1 <;> rcases bit_01 a.dst hz with b2 | b2 <;> rw [b1, b2] <;> simp <;> omega
theorem capOf_need {n z : Int} {l : List Nd} (h : NeOk n l) (hz : 0 ≤ z) (h1 : bit z n = 1) (h2 : bit z (n + 1) = 0) : capOf (needNet n l) z = allOf (comes n l) + outOf z l - intoOf z l := by
  have := come_sides hz h.arc
  unfold needNet
  rw [capOf_append, capOf_gainAs h1 h2, gain_comes]; omega
theorem comes_mem {n : Int} {l : List Nd} (h : NeOk n l) : ∀ x ∈ comes n l, -9990 ≤ x ∧ x ≤ 9990 := by
  intro x hx
  unfold comes at hx
  obtain ⟨k, _, rfl⟩ := List.mem_map.1 hx
  have := comeOf_in (k : Int) h.arc
  have := h.len
  omega
theorem NeOk.net {n : Int} {l : List Nd} (h : NeOk n l) : NOk (n + 2) n (n + 1) (needNet n l) := by
  have h1 := h.n1; have h2 := h.n2; have h3 := h.len
  have h4 := gainAs_len n (comes n l) 0
  rw [comes_len] at h4
  refine ⟨⟨by omega, by omega, by unfold needNet; simp; omega, fun a ha => ?_⟩, by omega, by omega, by omega, by omega, by omega⟩
  rcases List.mem_append.1 ha with ha | ha
  · obtain ⟨b, hb, rfl⟩ := List.mem_map.1 ha
    obtain ⟨h1, h2, h3, h4, h5, h6, h7⟩ := h.arc b hb
    unfold needA
    refine ⟨?_, ?_, ?_, ?_, ?_, ?_⟩ <;> simp only <;> omega
  · exact gainAs_ok (m := 9990) (by rw [comes_len]; omega) (by omega) (comes_mem h) a ha
theorem outs_congr {a b : Int} {l : List Nd} {n : Int} (hl : ∀ x ∈ l, NdOk n x) (h : ∀ v, 0 ≤ v → v < n → bit a v = bit b v) : outOf a l = outOf b l ∧ intoOf a l = intoOf b l := by
  induction l with
  | nil => exact ⟨rfl, rfl⟩
  | cons x r ih =>
    obtain ⟨h1, h2, h3, h4, _, _, _⟩ := hl x List.mem_cons_self
    have := ih (fun y hy => hl y (List.mem_cons_of_mem _ hy))
    simp only [outOf, intoOf, h _ h1 h2, h _ h3 h4, this.1, this.2, and_self]
/-- Any set is a side of the net. -/
theorem need_side {n : Int} {l : List Nd} (h : NeOk n l) {z : Int} (h0 : 0 ≤ z) (h1 : z < ((2 ^ n.toNat : Nat) : Int)) :
    Parts (n + 2) n (n + 1) (ior z (1 * 2 ^ n.toNat)) ∧ capOf (needNet n l) (ior z (1 * 2 ^ n.toNat)) = allOf (comes n l) + outOf z l - intoOf z l := by
  have n1 := h.n1
  obtain ⟨hp, hb⟩ := side_of h0 h1
  rw [show ((n.toNat : Nat) : Int) = n by omega] at hp hb
  refine ⟨hp, ?_⟩
  obtain ⟨e1, e2⟩ := outs_congr h.arc hb
  rw [capOf_need h hp.1 hp.2.2.1 hp.2.2.2, e1, e2]
theorem need_zero (l : List Nd) : outOf 0 l = 0 ∧ intoOf 0 l = 0 := by
  have hb : ∀ v, bit 0 v = 0 := fun v => by rw [bit_no (by omega), has_zero]
  induction l with
  | nil => exact ⟨rfl, rfl⟩
  | cons x r ih =>
    simp only [outOf, intoOf, hb, ih.1, ih.2]
    simp
/-- As much as must come can come, just if no set strains. -/
theorem need_value {n : Int} {l : List Nd} (h : NeOk n l) : (parted (n + 2) n (n + 1) (needNet n l)).1 ≤ allOf (comes n l) ∧
    ((parted (n + 2) n (n + 1) (needNet n l)).1 = allOf (comes n l) ↔ ∀ k : Nat, k < 2 ^ n.toNat → strains k l = false) := by
  have hN := h.net
  have hG := hN.toGOk
  have hp0 : (0 : Int) < ((2 ^ n.toNat : Nat) : Int) := by have := Nat.pow_pos (n := n.toNat) (a := 2) (by decide); omega
  obtain ⟨p0, c0⟩ := need_side h (z := 0) (by omega) hp0
  have hle := parted_le hG p0
  rw [c0, (need_zero l).1, (need_zero l).2] at hle
  refine ⟨by omega, fun he k hk => ?_, fun hs => ?_⟩
  · obtain ⟨p1, c1⟩ := need_side h (z := (k : Int)) (by omega) (by omega)
    have := parted_le hG p1
    unfold strains
    rw [decide_eq_false_iff_not]
    omega
  · obtain ⟨z, hz⟩ := MinCut.exists_ hN
    obtain ⟨s0, s1, s2⟩ := set_of (n := n.toNat) hz.1.1
    have n1 := h.n1
    rw [show ((n.toNat : Nat) : Int) = n by omega] at s2
    have hc := hz.2
    rw [capOf_need h hz.1.1 hz.1.2.2.1 hz.1.2.2.2] at hc
    obtain ⟨e1, e2⟩ := outs_congr h.arc s2
    have := hs (iand z (1 * 2 ^ n.toNat - 1)).toNat (by omega)
    rw [show (((iand z (1 * 2 ^ n.toNat - 1)).toNat : Nat) : Int) = iand z (1 * 2 ^ n.toNat - 1) by omega] at this
    unfold strains at this
    rw [decide_eq_false_iff_not, e1, e2] at this
    omega
/-- If too little comes, the least side's set strains. -/
theorem need_fault {n : Int} {l : List Nd} (h : NeOk n l) {z : Int} (hz : MinCut (n + 2) n (n + 1) (needNet n l) z) (hne : (parted (n + 2) n (n + 1) (needNet n l)).1 ≠ allOf (comes n l)) :
    0 ≤ iand z (1 * 2 ^ n.toNat - 1) ∧ iand z (1 * 2 ^ n.toNat - 1) < ((2 ^ n.toNat : Nat) : Int) ∧ strains (iand z (1 * 2 ^ n.toNat - 1)) l = true := by
  obtain ⟨s0, s1, s2⟩ := set_of (n := n.toNat) hz.1.1
  have n1 := h.n1
  rw [show ((n.toNat : Nat) : Int) = n by omega] at s2
  have hc := hz.2
  rw [capOf_need h hz.1.1 hz.1.2.2.1 hz.1.2.2.2] at hc
  obtain ⟨e1, e2⟩ := outs_congr h.arc s2
  have := (need_value h).1
  refine ⟨s0, s1, ?_⟩
  unfold strains
  rw [decide_eq_true_iff, e1, e2]
  omega
theorem gone_append (v : Int) : ∀ {xs ys : List Arc} {f g : List Int}, f.length = xs.length → gone (xs ++ ys) (f ++ g) v = gone xs f v + gone ys g v
  | [], ys, [], g, _ => by simp [gone]
  | a :: r, ys, x :: q, g, h => by
    simp only [List.cons_append, gone, gone_append v (xs := r) (ys := ys) (f := q) (g := g) (by simpa using h)]; omega
  | [], _, _ :: _, _, h => by simp at h
  | _ :: _, _, [], _, h => by simp at h
/-- With the arcs of the source and the sink full, what goes from a node to them. -/
theorem gone_gainAs {n : Int} {v : Int} (hv : v < n) : ∀ {l : List Int} {k : Int} {f : List Int}, f.length = (gainAs n k l).length → (∀ j, j < (gainAs n k l).length → f.getD j 0 = ((gainAs n k l).getD j default).cap) → 0 ≤ k → k + l.length ≤ n →
    gone (gainAs n k l) f v = if k ≤ v ∧ v < k + l.length then - l.getD (v - k).toNat 0 else 0
  | [], k, f, _, _, _, _ => by
    rw [if_neg (by simp)]; rfl
  | x :: r, k, f, hl, hf, hk, hn => by
    simp only [List.length_cons] at hn
    have hrest : ∀ f', f'.length = (gainAs n (k + 1) r).length → (∀ j, j < (gainAs n (k + 1) r).length → f'.getD j 0 = ((gainAs n (k + 1) r).getD j default).cap) → gone (gainAs n (k + 1) r) f' v = if k + 1 ≤ v ∧ v < k + 1 + r.length then - r.getD (v - (k + 1)).toNat 0 else 0 :=
      fun f' h1 h2 => gone_gainAs hv h1 h2 (by omega) (by omega)
    have hgoal : (if k ≤ v ∧ v < k + ((x :: r).length : Int) then - (x :: r).getD (v - k).toNat 0 else 0) = (if v = k then -x else 0) + (if k + 1 ≤ v ∧ v < k + 1 + r.length then - r.getD (v - (k + 1)).toNat 0 else 0) := by
      simp only [List.length_cons]
      by_cases e : v = k
      · subst e
        rw [if_pos (by omega), if_pos rfl, if_neg (by omega), Int.sub_self]; simp
      · rw [if_neg e]
        by_cases e2 : k + 1 ≤ v ∧ v < k + 1 + r.length
        · rw [if_pos (by omega), if_pos e2, show (v - k).toNat = (v - (k + 1)).toNat + 1 by omega, List.getD_cons_succ]; omega
        · rw [if_neg (by omega), if_neg e2]; rfl
    rw [hgoal]
    unfold gainAs gainA at hl hf ⊢
    by_cases hx : 0 < x
    · rw [if_pos hx] at hl hf ⊢
      cases f with
      | nil => simp at hl
      | cons y q =>
        have h0 := hf 0 (by simp)
        simp only [List.cons_append, List.nil_append, List.getD_cons_zero] at h0
        have h1 := hrest q (by simpa using hl) (fun j hj => by have := hf (j + 1) (by simpa using hj); simpa using this)
        simp only [List.cons_append, List.nil_append, gone, h1]
        rw [h0]
        by_cases e : v = k
        · rw [if_neg (by omega), if_pos e.symm, if_pos e]; omega
        · rw [if_neg (by omega), if_neg (fun h => e h.symm), if_neg e]; omega
    · rw [if_neg hx] at hl hf ⊢
      by_cases hx2 : x < 0
      · rw [if_pos hx2] at hl hf ⊢
        cases f with
        | nil => simp at hl
        | cons y q =>
          have h0 := hf 0 (by simp)
          simp only [List.cons_append, List.nil_append, List.getD_cons_zero] at h0
          have h1 := hrest q (by simpa using hl) (fun j hj => by have := hf (j + 1) (by simpa using hj); simpa using this)
          simp only [List.cons_append, List.nil_append, gone, h1]
          rw [h0]
          by_cases e : v = k
          · rw [if_pos e.symm, if_neg (by omega), if_pos e]; omega
          · rw [if_neg (fun h => e h.symm), if_neg (by omega), if_neg e]; omega
      · rw [if_neg hx2] at hl hf ⊢
        have h1 := hrest f (by simpa using hl) (fun j hj => by have := hf j (by simpa using hj); simpa using this)
        rw [List.nil_append, h1]
        have : x = 0 := by omega
        subst this
        split <;> omega
end Go.Ab
