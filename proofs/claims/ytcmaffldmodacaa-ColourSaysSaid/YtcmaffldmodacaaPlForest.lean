/- Of forests: how many colourings, two sides, how far. -/
import Derived.Test.YtcmaffldmodacaaPlRoots
namespace Go.Ab
def mrgI (n : Int) (a : Arc) (k : Int) : Int := if k = max a.src a.dst then min a.src a.dst else if k = n - 1 then max a.src a.dst else k
def mrg (n : Int) (a b : Arc) : Arc := ⟨mrgI n a b.src, mrgI n a b.dst, 0⟩
def cnt (q : Int) : Nat → Int → List Arc → Int
  | 0, n, _ => q ^ n.toNat
  | _ + 1, n, [] => q ^ n.toNat
  | k + 1, n, a :: r => if a.src = a.dst then 0 else cnt q k n r - cnt q k (n - 1) (r.map (mrg n a))
theorem pow_bd {q : Int} (h0 : 0 ≤ q) (h1 : q ≤ 20) : ∀ (i : Nat), 0 ≤ q ^ i ∧ q ^ i ≤ 20 ^ i
  | 0 => by simp
  | i + 1 => by
    obtain ⟨a, b⟩ := pow_bd h0 h1 i
    rw [Int.pow_succ, Int.pow_succ]
    exact ⟨Int.mul_nonneg a h0, Int.mul_le_mul b h1 h0 (Int.le_trans a b)⟩
theorem pow8_bd {q : Int} (h0 : 0 ≤ q) (h1 : q ≤ 20) {i : Nat} (hi : i ≤ 8) : 0 ≤ q ^ i ∧ q ^ i ≤ 25600000000 := by
  obtain ⟨a, b⟩ := pow_bd h0 h1 i
  have h2 : ∀ i : Nat, i ≤ 8 → (20 : Int) ^ i ≤ 25600000000 := by decide
  have := h2 i hi
  omega
def two (k : Nat) : Int := 2 ^ k
theorem two_succ (k : Nat) : two (k + 1) = two k * 2 := Int.pow_succ _ _
theorem two_pos (k : Nat) : 1 ≤ two k := by
  induction k with
  | zero => decide
  | succ k ih => rw [two_succ]; omega
theorem two_12 {k : Nat} (h : k ≤ 12) : two k ≤ 4096 := by
  have h2 : ∀ k : Nat, k ≤ 12 → two k ≤ 4096 := by decide
  exact h2 k h
theorem cnt_bd {q : Int} (h0 : 0 ≤ q) (h1 : q ≤ 20) : ∀ (k : Nat) {n : Int} {es : List Arc}, n ≤ 8 → -(two k * 25600000000) ≤ cnt q k n es ∧ cnt q k n es ≤ two k * 25600000000
  | 0, n, es, hn => by
    have := pow8_bd h0 h1 (i := n.toNat) (by omega)
    rw [cnt]
    have e : two 0 = 1 := rfl
    rw [e]; omega
  | k + 1, n, [], hn => by
    have := pow8_bd h0 h1 (i := n.toNat) (by omega)
    have := two_pos (k + 1)
    rw [cnt]
    omega
  | k + 1, n, a :: r, hn => by
    have g1 := cnt_bd h0 h1 k (n := n) (es := r) hn
    have g2 := cnt_bd h0 h1 k (n := n - 1) (es := r.map (mrg n a)) (by omega)
    have := two_pos k
    rw [cnt, two_succ]
    split <;> omega
theorem cnt_i64 {q : Int} (h0 : 0 ≤ q) (h1 : q ≤ 20) {k : Nat} (hk : k ≤ 12) {n : Int} {es : List Arc} (hn : n ≤ 8) : -1000000000000000 ≤ cnt q k n es ∧ cnt q k n es ≤ 1000000000000000 := by
  have := cnt_bd h0 h1 k (n := n) (es := es) hn
  have := two_12 hk
  omega
def colErr (n : Int) (es : List Arc) (q : Int) : Int := if graphErr n es (-10000) ≠ 0 then graphErr n es (-10000) else if 8 < n ∨ 12 < es.length then 2 else if q < 0 ∨ 20 < q then 1 else 0
theorem mrg_in {n : Int} {a : Arc} (h0 : 0 ≤ a.src) (h1 : a.src < n) (h2 : 0 ≤ a.dst) (h3 : a.dst < n) (hne : a.src ≠ a.dst) {x : Int} (hx0 : 0 ≤ x) (hx1 : x < n) : 0 ≤ mrgI n a x ∧ mrgI n a x < n - 1 := by
  unfold mrgI; split
  · omega
  · split <;> omega
theorem mrg_eq {n : Int} {a : Arc} (h0 : 0 ≤ a.src) (h1 : a.src < n) (h2 : 0 ≤ a.dst) (h3 : a.dst < n) (hne : a.src ≠ a.dst) {x y : Int} (hx : x < n) (hy : y < n) (e : mrgI n a x = mrgI n a y) : x = y ∨ (x = a.src ∧ y = a.dst) ∨ (x = a.dst ∧ y = a.src) := by
  unfold mrgI at e
  split at e <;> split at e <;> (try split at e) <;> (try split at e) <;> omega
theorem mrg_inR {n : Int} {a : Arc} (h0 : 0 ≤ a.src) (h1 : a.src < n) (h2 : 0 ≤ a.dst) (h3 : a.dst < n) (hne : a.src ≠ a.dst) {r : List Arc} (hA : InR n r) : InR (n - 1) (r.map (mrg n a)) := fun b hb => by
  obtain ⟨c, hc, rfl⟩ := List.mem_map.1 hb
  obtain ⟨c1, c2, c3, c4⟩ := hA c hc
  have e1 := mrg_in h0 h1 h2 h3 hne c1 c2
  have e2 := mrg_in h0 h1 h2 h3 hne c3 c4
  exact ⟨e1.1, e1.2, e2.1, e2.2⟩
end Go.Ab
