/- How many trees a graph has: what the program and the reference make of it. -/
import Derived.Test.YtakfbagokponeaaPlTr
import Derived.Test.YtakfbagokponeaaDel0
import Derived.Test.YtakfbagokponeaaPlA
namespace Go.Ab
def addL (n : Int) (L : List (List Int)) (i k x : Int) : List (List Int) := if i < n - 1 ∧ k < n - 1 then L.set i.toNat ((L.getD i.toNat []).set k.toNat ((L.getD i.toNat []).getD k.toNat 0 + x)) else L
structure Bd (m : Nat) (L : List (List Int)) (b : Int) : Prop where
  sq : Sq m L
  bd : ∀ i j, i < m → j < m → -b ≤ at2 L i j ∧ at2 L i j ≤ b
theorem at_addL {m : Nat} {n : Int} {L : List (List Int)} (hm : (m : Int) = n - 1) (h : Sq m L) {i k x : Int} (hi : 0 ≤ i) (hk : 0 ≤ k) {u v : Nat} (hu : u < m) (hv : v < m) :
    at2 (addL n L i k x) u v = at2 L u v + if i = (u : Int) ∧ k = (v : Int) then x else 0 := by
  unfold addL
  by_cases q : i < n - 1 ∧ k < n - 1
  · rw [if_pos q]
    have := at_put h (f := i.toNat) (t := k.toNat) (by omega) (by omega) ((L.getD i.toNat []).getD k.toNat 0 + x) u v
    unfold put2 at this
    rw [this]
    by_cases q2 : i = (u : Int) ∧ k = (v : Int)
    · rw [if_pos q2, if_pos (by omega)]
      have e1 : u = i.toNat := by omega
      have e2 : v = k.toNat := by omega
      rw [e1, e2]; rfl
    · rw [if_neg q2, if_neg (by omega)]; omega
  · rw [if_neg q, if_neg (by omega)]; omega
theorem Bd.add {m : Nat} {n : Int} {L : List (List Int)} {b : Int} (h : Bd m L b) (hm : (m : Int) = n - 1) {i k x : Int} (hi : 0 ≤ i) (hk : 0 ≤ k) (hx : -1 ≤ x ∧ x ≤ 1) : Bd m (addL n L i k x) (b + 1) := by
  refine ⟨?_, fun u v hu hv => ?_⟩
  · unfold addL
    split
    · exact h.sq.put
    · exact h.sq
  · rw [at_addL hm h.sq hi hk hu hv]
    have := h.bd u v hu hv
    split <;> omega
theorem Bd.mono {m : Nat} {L : List (List Int)} {b c : Int} (h : Bd m L b) (hb : b ≤ c) : Bd m L c := ⟨h.sq, fun i j hi hj => by have := h.bd i j hi hj; omega⟩
structure LapT (m : Nat) (L : List (List Int)) (es : List Arc) : Prop where
  sq : Sq m L
  at_ : ∀ i j, i < m → j < m → at2 L i j = lap es i j
theorem LapT.bd {m : Nat} {L : List (List Int)} {es : List Arc} (h : LapT m L es) {b : Int} (hb : (es.length : Int) ≤ b) : Bd m L b where
  sq := h.sq
  bd := fun i j hi hj => by rw [h.at_ i j hi hj]; have := lap_in es i j; omega
def addA (n : Int) (L : List (List Int)) (a : Arc) : List (List Int) := addL n (addL n (addL n (addL n L a.src a.src 1) a.dst a.dst 1) a.src a.dst (-1)) a.dst a.src (-1)
theorem LapT.add {m : Nat} {n : Int} {L : List (List Int)} {es : List Arc} {a : Arc} (h : LapT m L es) (hm : (m : Int) = n - 1) (h0 : 0 ≤ a.src) (h1 : 0 ≤ a.dst) (hne : a.src ≠ a.dst) : LapT m (addA n L a) (es ++ [a]) := by
  have b0 := h.bd (Int.le_refl _)
  have b1 := b0.add (x := 1) hm h0 h0 (by omega)
  have b2 := b1.add (x := 1) hm h1 h1 (by omega)
  have b3 := b2.add (x := -1) hm h0 h1 (by omega)
  have b4 := b3.add (x := -1) hm h1 h0 (by omega)
  refine ⟨b4.sq, fun i j hi hj => ?_⟩
  unfold addA
  rw [at_addL hm b3.sq h1 h0 hi hj, at_addL hm b2.sq h0 h1 hi hj, at_addL hm b1.sq h1 h1 hi hj, at_addL hm b0.sq h0 h0 hi hj, h.at_ i j hi hj, lap_snoc]
  unfold ev
  repeat' split
  all_goals omega
theorem LapT.loop {m : Nat} {L : List (List Int)} {es : List Arc} {a : Arc} (h : LapT m L es) (hne : a.src = a.dst) : LapT m L (es ++ [a]) where
  sq := h.sq
  at_ := fun i j hi hj => by
    rw [h.at_ i j hi hj, lap_snoc]
    unfold ev
    rw [hne]; simp
theorem LapT.start {m : Nat} {L : List (List Int)} (hl : L.length = m) (h : ∀ r, r < m → L.getD r [] = List.replicate m 0) : LapT m L [] where
  sq := ⟨hl, fun r hr => by rw [h r hr]; simp⟩
  at_ := fun i j hi hj => by
    unfold at2
    rw [h i hi, getD_lt _ 0 j (by simpa using hj)]; simp [lap]
theorem LapT.small {m : Nat} {L : List (List Int)} {es : List Arc} (h : LapT m L es) (hm : m ≤ 7) (he : es.length ≤ 30) : Small m (at2 L) := fun σ hσ k r c hk hkr hr hkc hc => by
  have e : minr (prm (at2 L) σ) k r c = det (k + 1) fun i j => lap es (σ (if i < k then i else r)) (if j < k then j else c) := by
    unfold minr
    refine det_congr fun i j hi hj => ?_
    unfold brd prm
    rw [h.at_ _ _ (hσ.lt _ (by split <;> omega)) (by split <;> omega)]
  rw [e]
  refine lap_minor (m := k + 1) (σ := fun i => σ (if i < k then i else r)) (τ := fun j => if j < k then j else c) (by omega) he (fun i j hi hj q => ?_) (fun i j hi hj q => ?_)
  · have := hσ.inj _ _ (by split <;> omega) (by split <;> omega) q
    split at this <;> split at this <;> omega
  · simp only at q
    split at q <;> split at q <;> omega
theorem Bd.i64 {m : Nat} {L : List (List Int)} {b : Int} (h : Bd m L b) (hb : b ≤ 9223372036854775807) : ∀ i j, i < m → j < m → -9223372036854775807 ≤ at2 L i j ∧ at2 L i j ≤ 9223372036854775807 := fun i j hi hj => by
  have := h.bd i j hi hj; omega
def cntErr (n : Int) (es : List Arc) : Int := if graphErr n es (-10000) ≠ 0 then graphErr n es (-10000) else if 8 < n ∨ 30 < es.length then 2 else 0
def cntVal (n : Int) (es : List Arc) : Int := det (n - 1).toNat (lap es)
theorem LapT.det_ {m : Nat} {L : List (List Int)} {n : Int} {es : List Arc} (h : LapT m L es) (hm : (m : Int) = n - 1) : det m (at2 L) = cntVal n es := by
  unfold cntVal
  rw [show (n - 1).toNat = m by omega]
  exact det_congr fun i j hi hj => h.at_ i j hi hj
structure LapR (m : Nat) (r : List Int) (i : Nat) (es : List Arc) : Prop where
  len : r.length = m
  at_ : ∀ j, j < m → r.getD j 0 = lap es (i + 1) (j + 1)
structure LapM (m : Nat) (M : List (List Int)) (es : List Arc) : Prop where
  len : M.length ≤ m
  row : ∀ i, i < M.length → LapR m (M.getD i []) i es
end Go.Ab
