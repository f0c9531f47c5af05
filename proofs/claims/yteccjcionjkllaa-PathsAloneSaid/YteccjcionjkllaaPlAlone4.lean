/- Of ways that have no node in common (MENGER): the plain laws that the walks ask for. -/
import Derived.Test.YteccjcionjkllaaPlAlone3
namespace Go.Ab
def alone1 (n s t : Int) (es : List Arc) : Int := if netErr n s t es ≠ 0 then netErr n s t es else if 6 < n ∨ 30 < es.length then 2 else 0
theorem alone1_err (n s t : Int) (es : List Arc) : aloneErr n s t es = if alone1 n s t es ≠ 0 then alone1 n s t es else if es.any (direct s t) = true then 9 else 0 := by
  unfold aloneErr alone1
  by_cases h1 : netErr n s t es ≠ 0
  · rw [if_pos h1, if_pos h1, if_pos h1]
  · rw [if_neg h1, if_neg h1]
    by_cases h2 : 6 < n ∨ 30 < es.length
    · rw [if_pos h2, if_pos h2, if_pos (by decide)]
    · rw [if_neg h2, if_neg h2]; simp
theorem aloneErr_net {n s t : Int} {es : List Arc} (h : netErr n s t es ≠ 0) : aloneErr n s t es = netErr n s t es := by rw [aloneErr, if_pos h]
theorem aloneErr_big {n s t : Int} {es : List Arc} (h : netErr n s t es = 0) (h2 : 6 < n ∨ 30 < es.length) : aloneErr n s t es = 2 := by rw [aloneErr, if_neg (by omega), if_pos h2]
theorem aloneErr_dir {n s t : Int} {es : List Arc} (h : netErr n s t es = 0) (h2 : ¬ (6 < n ∨ 30 < es.length)) {i : Nat} (hi : i < es.length) (hd : (es.getD i default).src = s ∧ (es.getD i default).dst = t) : aloneErr n s t es = 9 := by
  rw [aloneErr, if_neg (by omega), if_neg h2, if_pos]
  rw [List.any_eq_true]
  exact ⟨_, getD_mem hi, by unfold direct; rw [decide_eq_true hd.1, decide_eq_true hd.2]; rfl⟩
theorem aloneErr_none {n s t : Int} {es : List Arc} (h : netErr n s t es = 0) (h2 : ¬ (6 < n ∨ 30 < es.length)) (hd : ∀ i, i < es.length → ¬ ((es.getD i default).src = s ∧ (es.getD i default).dst = t)) : aloneErr n s t es = 0 := by
  rw [aloneErr, if_neg (by omega), if_neg h2, if_neg]
  rw [List.any_eq_true]
  rintro ⟨a, ha, q⟩
  obtain ⟨i, hi, rfl⟩ := mem_getD default ha
  simp only [direct, Bool.and_eq_true, decide_eq_true_eq] at q
  exact hd i hi q
theorem aloneTo_zero (es : List Arc) (s t n : Int) : aloneTo es s t n 0 = (nodesTo s t n.toNat).map nodeA := by simp [aloneTo, keptTo]
theorem aloneTo_yes {es : List Arc} {s t n : Int} {k : Nat} (h : keepB s t (es.getD k default)) : aloneTo es s t n (k + 1) = aloneTo es s t n k ++ [keepA (es.getD k default)] := by
  rw [aloneTo, keptTo_yes h, List.map_append, ← List.append_assoc]
  simp [aloneTo, keepK]
theorem aloneTo_no {es : List Arc} {s t n : Int} {k : Nat} (h : ¬ keepB s t (es.getD k default)) : aloneTo es s t n (k + 1) = aloneTo es s t n k := by
  rw [aloneTo, keptTo_no h]; rfl
theorem aloneTo_len (es : List Arc) (s t n : Int) (k : Nat) : (aloneTo es s t n k).length ≤ n.toNat + k := by
  have h1 := nodesTo_le s t n.toNat
  have h2 := keptTo_le es s t k
  unfold aloneTo
  rw [List.length_append, List.length_map, List.length_map]
  omega
theorem split_in {n s t : Int} {es : List Arc} {f : List Int} {ways rounds : List (Int × List Int)} {e : Int} (h : SplitOk n s t es f ways rounds e) : ∀ p ∈ ways, ∀ k ∈ p.2, 0 ≤ k ∧ k < es.length := fun p hp k hk => by
  rcases h with ⟨_, _, q, _⟩ | ⟨_, _, _, q, _⟩ | ⟨_, _, _, q, _⟩
  · rw [q] at hp; cases hp
  · rw [q] at hp; cases hp
  · exact (q p hp).kr k hk
theorem split_len {n s t : Int} {es : List Arc} {f : List Int} {ways rounds : List (Int × List Int)} {e : Int} (h : SplitOk n s t es f ways rounds e) : ways.length ≤ es.length := by
  rcases h with ⟨_, _, q, _⟩ | ⟨_, _, _, q, _⟩ | ⟨_, _, _, _, _, _, _, q⟩
  · rw [q]; exact Nat.zero_le _
  · rw [q]; exact Nat.zero_le _
  · omega
theorem split_way {n s t : Int} {es : List Arc} {f : List Int} {ways rounds : List (Int × List Int)} {e : Int} (h : SplitOk n s t es f ways rounds e) : ∀ p ∈ ways, p.2.length ≤ es.length := fun p hp => by
  rcases h with ⟨_, _, q, _⟩ | ⟨_, _, _, q, _⟩ | ⟨_, _, _, q, _⟩
  · rw [q] at hp; cases hp
  · rw [q] at hp; cases hp
  · have hP := q p hp
    have := nodup_int (n := (es.length : Int)) hP.nd (fun v hv => hP.kr v hv)
    omega
def AlRes (n s t : Int) (es : List Arc) (W : List (List Int)) : Prop := (aloneErr n s t es ≠ 0 ∧ W = []) ∨ (aloneErr n s t es = 0 ∧ Alone n s t es W ∧ ((W.length : Nat) : Int) = blockOf n s t es)
def aloneLow (n s t : Int) (es : List Arc) : Int := (parted (2 * n) (2 * s + 1) (2 * t) (aloneNet n s t es)).2.1
theorem block_right {n s t : Int} {es : List Arc} (h : AlOk n s t es) : ((blockTo s t (aloneLow n s t es) n.toNat).length : Int) = blockOf n s t es ∧ blockedB s t es (bitsOf (blockTo s t (aloneLow n s t es) n.toNat)) = true := by
  obtain ⟨b1, b2⟩ := alone_block h (MinCut.low h.net).1
  exact ⟨by rw [blockOf_eq h]; exact b1, b2.2⟩
theorem block_in {s t z x : Int} {k : Nat} (h : x ∈ blockTo s t z k) : 0 ≤ x ∧ x < k ∧ x ≠ s ∧ x ≠ t := (blockTo_mem.1 h).1
theorem bitsOf_take {l : List Int} {i : Nat} (hi : i < l.length) : bitsOf (l.take (i + 1)) = ior (bitsOf (l.take i)) (1 * 2 ^ (l.getD i 0).toNat) := by rw [take_getD l 0 i hi, bitsOf_snoc]
theorem bitsOf_16 {l : List Int} (h : ∀ k ∈ l, 0 ≤ k ∧ k < 12) : 0 ≤ bitsOf l ∧ bitsOf l ≤ 65535 := by
  have h1 := bitsOf_nn l
  have h2 := bitsOf_lt (m := 12) h
  omega
theorem bitsOf_new {l : List Int} {x : Int} (h : ∀ k ∈ l, 0 ≤ k) (hx : 0 ≤ x) (hn : x ∉ l) : bit (bitsOf l) x = 0 := by
  rcases bit_01 x (bitsOf_nn l) with e | e
  · exact e
  · exact absurd ((bitsOf_bit h hx).1 e) hn
theorem inner_len (es : List Arc) (w : List Int) : (innerOf es w).length = w.length - 1 := by unfold innerOf; rw [List.length_map, List.length_dropLast]
theorem inner_at {es : List Arc} {w : List Int} {j : Nat} (hj : j < w.length - 1) : (innerOf es w).getD j 0 = (es.getD (w.getD j 0).toNat default).dst := by
  unfold innerOf
  rw [getD_map0 (dstOf es) 0 0 _ _ (by rw [List.length_dropLast]; exact hj), dstOf]
  congr 3
  rw [getD_lt _ _ _ (by rw [List.length_dropLast]; exact hj), getD_lt _ _ _ (by omega), List.getElem_dropLast]
def metTo (es : List Arc) (W : List (List Int)) (i j : Nat) : List Int := ((W.take i).map (innerOf es)).flatten ++ (innerOf es (W.getD i [])).take j
theorem metTo_next {es : List Arc} {W : List (List Int)} {i : Nat} (hi : i < W.length) {j : Nat} (hj : (innerOf es (W.getD i [])).length ≤ j) : metTo es W i j = ((W.take (i + 1)).map (innerOf es)).flatten := by
  rw [metTo, List.take_of_length_le hj, take_getD W [] i hi, List.map_append, List.flatten_append]; simp
theorem metTo_zero (es : List Arc) (W : List (List Int)) (i : Nat) : metTo es W i 0 = ((W.take i).map (innerOf es)).flatten := by simp [metTo]
theorem metTo_sub {es : List Arc} {W : List (List Int)} {i : Nat} (hi : i < W.length) : ∃ r, (W.map (innerOf es)).flatten = ((W.take i).map (innerOf es)).flatten ++ innerOf es (W.getD i []) ++ r := by
  refine ⟨((W.drop (i + 1)).map (innerOf es)).flatten, ?_⟩
  have h : W = W.take i ++ [W.getD i []] ++ W.drop (i + 1) := by rw [← take_getD W [] i hi, List.take_append_drop]
  conv => lhs; rw [h]
  simp
theorem metTo_new {n s t : Int} {es : List Arc} {W : List (List Int)} (h : Alone n s t es W) {i j : Nat} (hi : i < W.length) (hj : j < (innerOf es (W.getD i [])).length) : (innerOf es (W.getD i [])).getD j 0 ∉ metTo es W i j := fun hm => by
  obtain ⟨r, hr⟩ := metTo_sub (es := es) hi
  have hnd := h.nodes
  rw [hr] at hnd
  have h1 := (List.nodup_append.1 hnd).1
  obtain ⟨h2, h3, h4⟩ := List.nodup_append.1 h1
  have hmem := getD_mem (d := (0 : Int)) hj
  rcases List.mem_append.1 hm with q | q
  · exact h4 _ q _ hmem rfl
  · obtain ⟨k, hk, e⟩ := mem_getD 0 q
    rw [List.length_take] at hk
    have hg : ∀ (l : List Int) (j k : Nat), k < j → (l.take j).getD k 0 = l.getD k 0 := fun l j k q => by simp [List.getD_eq_getElem?_getD, q]
    rw [hg _ _ _ (by omega)] at e
    rw [getD_lt _ _ _ (by omega), getD_lt _ _ _ hj] at e
    have h5 := List.pairwise_iff_getElem.1 h3 k j (by omega) hj (by omega)
    exact h5 e
theorem metTo_in {n s t : Int} {es : List Arc} {W : List (List Int)} (h : Alone n s t es W) {i j : Nat} (hi : i < W.length) : ∀ x ∈ metTo es W i j, 0 ≤ x ∧ x < n ∧ x ≠ s ∧ x ≠ t := fun x hx => by
  rcases List.mem_append.1 hx with q | q
  · obtain ⟨w, hw, hxw⟩ := List.mem_flatten.1 q
    obtain ⟨u, hu, rfl⟩ := List.mem_map.1 hw
    exact h.inn u (List.mem_of_mem_take hu) x hxw
  · exact h.inn _ (getD_mem hi) x (List.mem_of_mem_take q)
theorem metTo_step {es : List Arc} {W : List (List Int)} {i j : Nat} (hj : j < (innerOf es (W.getD i [])).length) : bitsOf (metTo es W i (j + 1)) = ior (bitsOf (metTo es W i j)) (1 * 2 ^ ((innerOf es (W.getD i [])).getD j 0).toNat) := by
  rw [metTo, take_getD _ 0 j hj, ← List.append_assoc, bitsOf_snoc]; rfl
end Go.Ab
namespace Go.Ab
theorem many_step {z : Int} (hz : 0 ≤ z) (k : Nat) : ((many z (k + 1) : Nat) : Int) = ((many z k : Nat) : Int) + iand (z / 2 ^ k) 1 := by
  have h := bit_has (z := z) (k : Int) hz
  unfold bit at h
  rw [Int.toNat_natCast] at h
  rw [h]
  simp only [many]
  split <;> omega
end Go.Ab
namespace Go.Ab
theorem take_get0 {l : List Int} {m j : Nat} (h : j < m) : (l.take m).getD j 0 = l.getD j 0 := by simp [List.getD_eq_getElem?_getD, h]
end Go.Ab
