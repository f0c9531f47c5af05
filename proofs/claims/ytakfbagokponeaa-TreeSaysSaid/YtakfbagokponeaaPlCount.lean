/- How many trees a graph has: what the program and the reference make of it. -/
import Derived.Test.YtakfbagokponeaaPlTr
import Derived.Test.YtakfbagokponeaaDel0
import Derived.Test.YtakfbagokponeaaPlA
namespace Go.Ab
/-- A number is added to a place of the table, if there is such a place. -/
def addL (n : Int) (L : List (List Int)) (i k x : Int) : List (List Int) := if i < n - 1 ∧ k < n - 1 then L.set i.toNat ((L.getD i.toNat []).set k.toNat ((L.getD i.toNat []).getD k.toNat 0 + x)) else L
structure Bd (m : Nat) (L : List (List Int)) (b : Int) : Prop where
  sq : Sq m L
  bd : ∀ i j, i < m → j < m → -b ≤ at2 L i j ∧ at2 L i j ≤ b
theorem at_addL {m : Nat} {n : Int} {L : List (List Int)} (hm : (m : Int) = n - 1) (h : Sq m L) {i k x : Int} (hi : 0 ≤ i) (hk : 0 ≤ k) {u v : Nat} (hu : u < m) (hv : v < m) :
    at2 (addL n L i k x) u v = at2 L u v + if i = (u : Int) ∧ k = (v : Int) then x else 0 := by
  unfold addL
  by_cases q : i < n - 1 ∧ k < n - 1
  · rw [if_pos q]
    have := at_put h (f := i.toNat) (t := k.toNat) (by omega) (by omega) ((L.getD i.toNat []).getD k.toNat 0 + x) u v
    unfold put2 at this
    rw [this]
    by_cases q2 : i = (u : Int) ∧ k = (v : Int)
    · rw [if_pos q2, if_pos (by omega)]
      have e1 : u = i.toNat := by omega
      have e2 : v = k.toNat := by omega
      rw [e1, e2]; rfl
    · rw [if_neg q2, if_neg (by omega)]; omega
  · rw [if_neg q, if_neg (by omega)]; omega
theorem Bd.add {m : Nat} {n : Int} {L : List (List Int)} {b : Int} (h : Bd m L b) (hm : (m : Int) = n - 1) {i k x : Int} (hi : 0 ≤ i) (hk : 0 ≤ k) (hx : -1 ≤ x ∧ x ≤ 1) : Bd m (addL n L i k x) (b + 1) := by
  refine ⟨?_, fun u v hu hv => ?_⟩
  · unfold addL
    split
    · exact h.sq.put
    · exact h.sq
  · rw [at_addL hm h.sq hi hk hu hv]
    have := h.bd u v hu hv
    split <;> omega
theorem Bd.mono {m : Nat} {L : List (List Int)} {b c : Int} (h : Bd m L b) (hb : b ≤ c) : Bd m L c := ⟨h.sq, fun i j hi hj => by have := h.bd i j hi hj; omega⟩
/-- The table behind some arcs. -/
structure LapT (m : Nat) (L : List (List Int)) (es : List Arc) : Prop where
  sq : Sq m L
  at_ : ∀ i j, i < m → j < m → at2 L i j = lap es i j
theorem LapT.bd {m : Nat} {L : List (List Int)} {es : List Arc} (h : LapT m L es) {b : Int} (hb : (es.length : Int) ≤ b) : Bd m L b where
  sq := h.sq
  bd := fun i j hi hj => by rw [h.at_ i j hi hj]; have := lap_in es i j; omega
def addA (n : Int) (L : List (List Int)) (a : Arc) : List (List Int) := addL n (addL n (addL n (addL n L a.src a.src 1) a.dst a.dst 1) a.src a.dst (-1)) a.dst a.src (-1)
theorem LapT.add {m : Nat} {n : Int} {L : List (List Int)} {es : List Arc} {a : Arc} (h : LapT m L es) (hm : (m : Int) = n - 1) (h0 : 0 ≤ a.src) (h1 : 0 ≤ a.dst) (hne : a.src ≠ a.dst) : LapT m (addA n L a) (es ++ [a]) := by
  have b0 := h.bd (Int.le_refl _)
  have b1 := b0.add (x := 1) hm h0 h0 (by omega)
  have b2 := b1.add (x := 1) hm h1 h1 (by omega)
  have b3 := b2.add (x := -1) hm h0 h1 (by omega)
  have b4 := b3.add (x := -1) hm h1 h0 (by omega)
  refine ⟨b4.sq, fun i j hi hj => ?_⟩
  unfold addA
  rw [at_addL hm b3.sq h1 h0 hi hj, at_addL hm b2.sq h0 h1 hi hj, at_addL hm b1.sq h1 h1 hi hj, at_addL hm b0.sq h0 h0 hi hj, h.at_ i j hi hj, lap_snoc]
  unfold ev
  repeat' split
  all_goals omega
theorem LapT.loop {m : Nat} {L : List (List Int)} {es : List Arc} {a : Arc} (h : LapT m L es) (hne : a.src = a.dst) : LapT m L (es ++ [a]) where
  sq := h.sq
  at_ := fun i j hi hj => by
    rw [h.at_ i j hi hj, lap_snoc]
    unfold ev
    rw [hne]; simp
theorem LapT.start {m : Nat} {L : List (List Int)} (hl : L.length = m) (h : ∀ r, r < m → L.getD r [] = List.replicate m 0) : LapT m L [] where
  sq := ⟨hl, fun r hr => by rw [h r hr]; simp⟩
  at_ := fun i j hi hj => by
    unfold at2
    rw [h i hi, getD_lt _ 0 j (by simpa using hj)]; simp [lap]
theorem LapT.small {m : Nat} {L : List (List Int)} {es : List Arc} (h : LapT m L es) (hm : m ≤ 7) (he : es.length ≤ 30) : Small m (at2 L) := fun σ hσ k r c hk hkr hr hkc hc => by
  have e : minr (prm (at2 L) σ) k r c = det (k + 1) fun i j => lap es (σ (if i < k then i else r)) (if j < k then j else c) := by
    unfold minr
    refine det_congr fun i j hi hj => ?_
    unfold brd prm
    rw [h.at_ _ _ (hσ.lt _ (by split <;> omega)) (by split <;> omega)]
  rw [e]
  refine lap_minor (m := k + 1) (σ := fun i => σ (if i < k then i else r)) (τ := fun j => if j < k then j else c) (by omega) he (fun i j hi hj q => ?_) (fun i j hi hj q => ?_)
  · have := hσ.inj _ _ (by split <;> omega) (by split <;> omega) q
    split at this <;> split at this <;> omega
  · simp only at q
    split at q <;> split at q <;> omega
theorem Bd.i64 {m : Nat} {L : List (List Int)} {b : Int} (h : Bd m L b) (hb : b ≤ 9223372036854775807) : ∀ i j, i < m → j < m → -9223372036854775807 ≤ at2 L i j ∧ at2 L i j ≤ 9223372036854775807 := fun i j hi hj => by
  have := h.bd i j hi hj; omega
def cntErr (n : Int) (es : List Arc) : Int := if graphErr n es (-10000) ≠ 0 then graphErr n es (-10000) else if 8 < n ∨ 30 < es.length then 2 else 0
def cntVal (n : Int) (es : List Arc) : Int := det (n - 1).toNat (lap es)
theorem LapT.det_ {m : Nat} {L : List (List Int)} {n : Int} {es : List Arc} (h : LapT m L es) (hm : (m : Int) = n - 1) : det m (at2 L) = cntVal n es := by
  unfold cntVal
  rw [show (n - 1).toNat = m by omega]
  exact det_congr fun i j hi hj => h.at_ i j hi hj
/-! ### The reference: without node 0 -/
/-- A row behind some arcs. -/
structure LapR (m : Nat) (r : List Int) (i : Nat) (es : List Arc) : Prop where
  len : r.length = m
  at_ : ∀ j, j < m → r.getD j 0 = lap es (i + 1) (j + 1)
theorem LapR.start {m i : Nat} : LapR m (List.replicate m 0) i [] where
  len := by simp
  at_ := fun j hj => by rw [getD_lt _ 0 j (by simpa using hj)]; simp [lap]
theorem LapR.bd {m i : Nat} {r : List Int} {es : List Arc} (h : LapR m r i es) (hl : es.length ≤ 60) (j : Nat) : -60 ≤ r.getD j 0 ∧ r.getD j 0 ≤ 60 := by
  by_cases q : j < m
  · rw [h.at_ j q]
    have := lap_in es (i + 1) (j + 1); omega
  · rw [getD_ge _ _ _ (by rw [h.len]; omega)]; omega
theorem LapR.bd1 {m i : Nat} {r : List Int} {es : List Arc} (h : LapR m r i es) (hl : es.length ≤ 60) (k j : Nat) : -61 ≤ (r.set k (r.getD k 0 + 1)).getD j 0 ∧ (r.set k (r.getD k 0 + 1)).getD j 0 ≤ 61 := by
  have h1 := h.bd hl j
  have h2 := h.bd hl k
  by_cases q : k < r.length
  · rw [getD_set_if _ _ _ _ q]; split <;> omega
  · rw [List.set_eq_of_length_le (by omega)]; omega
theorem LapR.loop {m i : Nat} {r : List Int} {es : List Arc} {a : Arc} (h : LapR m r i es) (hne : a.src = a.dst) : LapR m r i (es ++ [a]) where
  len := h.len
  at_ := fun j hj => by
    rw [h.at_ j hj, lap_snoc]
    unfold ev
    rw [hne]; simp
theorem LapR.off {m i : Nat} {r : List Int} {es : List Arc} {a : Arc} (h : LapR m r i es) (h1 : a.src ≠ (i : Int) + 1) (h2 : a.dst ≠ (i : Int) + 1) : LapR m r i (es ++ [a]) where
  len := h.len
  at_ := fun j hj => by
    rw [h.at_ j hj, lap_snoc]
    have : ev a (i + 1) = 0 := by unfold ev; rw [if_neg (by omega), if_neg (by omega)]; rfl
    rw [this]; simp
theorem LapR.one {m i : Nat} {r : List Int} {es : List Arc} {a : Arc} (h : LapR m r i es) (hi : i < m) (hne : a.src ≠ a.dst) (h1 : a.src = (i : Int) + 1 ∨ a.dst = (i : Int) + 1) (h3 : a.src + a.dst - ((i : Int) + 1) ≤ 0) (h4 : 0 ≤ a.src) (h5 : 0 ≤ a.dst) : LapR m (r.set i (r.getD i 0 + 1)) i (es ++ [a]) where
  len := by rw [List.length_set]; exact h.len
  at_ := fun j hj => by
    have hl := h.len
    rw [lap_snoc, ← h.at_ j hj, getD_set_if _ _ _ _ (by omega)]
    unfold ev
    by_cases e : j = i
    · subst e
      rw [if_pos rfl]
      rcases h1 with q | q
      · rw [if_pos (show a.src = ((j + 1 : Nat) : Int) by omega), if_neg (show ¬ a.dst = ((j + 1 : Nat) : Int) by omega)]; omega
      · rw [if_neg (show ¬ a.src = ((j + 1 : Nat) : Int) by omega), if_pos (show a.dst = ((j + 1 : Nat) : Int) by omega)]; omega
    · rw [if_neg e]
      rw [if_neg (show ¬ a.src = ((j + 1 : Nat) : Int) by omega), if_neg (show ¬ a.dst = ((j + 1 : Nat) : Int) by omega)]; simp
theorem LapR.two {m i : Nat} {r : List Int} {es : List Arc} {a : Arc} (h : LapR m r i es) (hi : i < m) (hne : a.src ≠ a.dst) (h1 : a.src = (i : Int) + 1 ∨ a.dst = (i : Int) + 1) {o : Nat} (h3 : a.src + a.dst - ((i : Int) + 1) = (o : Int) + 1) (ho : o < m) :
    LapR m ((r.set i (r.getD i 0 + 1)).set o ((r.set i (r.getD i 0 + 1)).getD o 0 - 1)) i (es ++ [a]) where
  len := by rw [List.length_set, List.length_set]; exact h.len
  at_ := fun j hj => by
    have hl := h.len
    have hoi : o ≠ i := by omega
    rw [lap_snoc, ← h.at_ j hj, getD_set_if _ _ _ _ (by rw [List.length_set]; omega), getD_set_if _ _ _ _ (by omega), getD_set_if _ _ _ _ (by omega), if_neg hoi]
    unfold ev
    by_cases e : j = o
    · subst e
      rw [if_pos rfl]
      rcases h1 with q | q
      · rw [if_pos (show a.src = ((i + 1 : Nat) : Int) by omega), if_neg (show ¬ a.dst = ((i + 1 : Nat) : Int) by omega), if_neg (show ¬ a.src = ((j + 1 : Nat) : Int) by omega), if_pos (show a.dst = ((j + 1 : Nat) : Int) by omega)]; omega
      · rw [if_neg (show ¬ a.src = ((i + 1 : Nat) : Int) by omega), if_pos (show a.dst = ((i + 1 : Nat) : Int) by omega), if_pos (show a.src = ((j + 1 : Nat) : Int) by omega), if_neg (show ¬ a.dst = ((j + 1 : Nat) : Int) by omega)]; omega
    · rw [if_neg e]
      by_cases e2 : j = i
      · subst e2
        rw [if_pos rfl]
        rcases h1 with q | q
        · rw [if_pos (show a.src = ((j + 1 : Nat) : Int) by omega), if_neg (show ¬ a.dst = ((j + 1 : Nat) : Int) by omega)]; omega
        · rw [if_neg (show ¬ a.src = ((j + 1 : Nat) : Int) by omega), if_pos (show a.dst = ((j + 1 : Nat) : Int) by omega)]; omega
      · rw [if_neg e2, if_neg (show ¬ a.src = ((j + 1 : Nat) : Int) by omega), if_neg (show ¬ a.dst = ((j + 1 : Nat) : Int) by omega)]; simp
/-- The rows without node 0. -/
structure LapM (m : Nat) (M : List (List Int)) (es : List Arc) : Prop where
  len : M.length ≤ m
  row : ∀ i, i < M.length → LapR m (M.getD i []) i es
theorem LapM.start {m : Nat} {es : List Arc} : LapM m [] es := ⟨Nat.zero_le _, fun _ h => by cases h⟩
theorem LapM.push {m : Nat} {M : List (List Int)} {es : List Arc} {r : List Int} (h : LapM m M es) (hl : M.length < m) (hr : LapR m r M.length es) : LapM m (M ++ [r]) es := by
  refine ⟨by rw [List.length_append, List.length_singleton]; omega, fun i hi => ?_⟩
  rw [List.length_append, List.length_singleton] at hi
  by_cases e : i < M.length
  · rw [getD_app_l _ _ _ _ e]; exact h.row i e
  · have : i = M.length := by omega
    subst this
    have e2 : (M ++ [r]).getD M.length [] = r := by rw [List.getD_eq_getElem?_getD, List.getElem?_append_right (Nat.le_refl _)]; simp
    rw [e2]; exact hr
theorem LapM.sq {m : Nat} {M : List (List Int)} {es : List Arc} (h : LapM m M es) (hl : M.length = m) : Sq m M := ⟨hl, fun r hr => (h.row r (by omega)).len⟩
theorem LapM.ent {m : Nat} {M : List (List Int)} {es : List Arc} (h : LapM m M es) (hl : M.length = m) {b : Int} (hb : (es.length : Int) ≤ b) : EntB m b M := fun i j hi hj => by
  unfold at2
  rw [(h.row i (by omega)).at_ j hj]
  have := lap_in es (i + 1) (j + 1)
  omega
theorem LapM.det_ {m : Nat} {M : List (List Int)} {n : Int} {es : List Arc} (h : LapM m M es) (hl : M.length = m) (hm : (m : Int) = n - 1) (hA : InR n es) : det m (at2 M) = cntVal n es := by
  unfold cntVal
  rw [show (n - 1).toNat = m by omega, ← lap_cof (m := m) (es := es) (fun a ha => by have := hA a ha; omega)]
  exact det_congr fun i j hi hj => (h.row i (by omega)).at_ j hj
theorem dbd60 {k : Nat} (h : k ≤ 7) : dbd 60 k ≤ 4611686018427387904 := by
  have h2 : k = 0 ∨ k = 1 ∨ k = 2 ∨ k = 3 ∨ k = 4 ∨ k = 5 ∨ k = 6 ∨ k = 7 := by omega
  rcases h2 with rfl | rfl | rfl | rfl | rfl | rfl | rfl | rfl <;> decide +kernel
theorem delA_erase {es : List Arc} {i : Nat} (h : i < es.length) : (delA es i).take (es.length - 1) = es.eraseIdx i := by
  unfold delA
  rw [List.take_append_of_le_length (by rw [List.length_append, List.length_take, List.length_drop]; omega), List.take_of_length_le (by rw [List.length_append, List.length_take, List.length_drop]; omega), List.eraseIdx_eq_take_drop_succ]
/-! ### Is it a tree -/
def isTr (n : Int) (es : List Arc) : Bool := decide ((es.length : Int) = n - 1) && !(joinedOf n es).any fun p => decide (p ≠ 0)
theorem foldl_max_ge : ∀ {l : List Int} {m : Int}, m ≤ l.foldl max m ∧ ∀ x ∈ l, x ≤ l.foldl max m
  | [], m => ⟨Int.le_refl _, fun _ h => by cases h⟩
  | y :: r, m => by
    obtain ⟨h1, h2⟩ := foldl_max_ge (l := r) (m := max m y)
    rw [List.foldl_cons]
    refine ⟨by omega, fun x hx => ?_⟩
    rcases List.mem_cons.1 hx with rfl | hx
    · omega
    · exact h2 x hx
theorem maxL_ge {l : List Int} {x : Int} (h : x ∈ l) : x ≤ maxL l := by
  cases l with
  | nil => cases h
  | cons y r =>
    obtain ⟨h1, h2⟩ := foldl_max_ge (l := r) (m := y)
    rcases List.mem_cons.1 h with rfl | h
    · exact h1
    · exact h2 x h
theorem joined_nn {n : Int} {es : List Arc} (h12 : n ≤ 12) (hA : InR n es) : ∀ x ∈ joinedOf n es, 0 ≤ x := fun x hx => by
  obtain ⟨v, hv, rfl⟩ := List.mem_iff_getElem.1 hx
  have hl := joinedOf_len n es
  have := (root_at h12 hA (v := v) (by omega)).1
  unfold rootOf at this
  rwa [getD_lt _ 0 v hv] at this
theorem isTr_max {n : Int} {es : List Arc} (h1 : 1 ≤ n) (h12 : n ≤ 12) (hA : InR n es) : isTr n es = (decide (((es.length : Nat) : Int) = (n - 1)) && decide (maxL (joinedOf n es) = 0)) := by
  unfold isTr
  congr 1
  rw [Bool.eq_iff_iff, Bool.not_eq_true', List.any_eq_false, decide_eq_true_eq]
  constructor
  · intro h
    have hz : joinedOf n es = List.replicate n.toNat 0 := by
      refine List.eq_replicate_iff.2 ⟨joinedOf_len n es, fun x hx => ?_⟩
      have := h x hx
      simpa using this
    rw [hz]; exact maxL_zero _
  · intro h x hx
    have g1 := maxL_ge hx
    have g2 := joined_nn h12 hA x hx
    rw [h] at g1
    simp; omega
def treeErr (n : Int) (es : List Arc) : Int := if graphErr n es (-10000) ≠ 0 then graphErr n es (-10000) else if isTr n es = true then 0 else 3
theorem isTr_iff {n : Int} {es : List Arc} : isTr n es = true ↔ (es.length : Int) = n - 1 ∧ ∀ x ∈ joinedOf n es, x = 0 := by
  unfold isTr
  rw [Bool.and_eq_true, decide_eq_true_eq, Bool.not_eq_true', List.any_eq_false]
  simp
end Go.Ab
