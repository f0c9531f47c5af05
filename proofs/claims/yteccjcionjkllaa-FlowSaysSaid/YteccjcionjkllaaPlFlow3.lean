/- Of cuts: the plain laws. -/
import Derived.Test.YteccjcionjkllaaPlFlow2
import Derived.Test.YteccjcionjkllaaAbA
namespace Go.Ab
/-- Does a side, a number, hold a node? 1 or 0. -/
def bit (σ v : Int) : Int := iand (σ / 2 ^ v.toNat) 1
theorem bit_01 {σ : Int} (v : Int) (_h : 0 ≤ σ) : bit σ v = 0 ∨ bit σ v = 1 := by
  unfold bit iand
  have : ((σ / 2 ^ v.toNat).toNat &&& (1 : Int).toNat) = (σ / 2 ^ v.toNat).toNat % 2 := Nat.and_one_is_mod _
  rw [this]
  omega
theorem shr_in {σ : Int} (v : Int) (h0 : 0 ≤ σ) (h1 : σ ≤ 65535) : 0 ≤ σ / 2 ^ v.toNat ∧ σ / 2 ^ v.toNat ≤ 65535 := by
  have hp : (0 : Int) < 2 ^ v.toNat := Int.pow_pos (by decide)
  refine ⟨Int.ediv_nonneg h0 (Int.le_of_lt hp), ?_⟩
  have := Int.ediv_le_self (2 ^ v.toNat) h0
  omega
def capOf : List Arc → Int → Int
  | [], _ => 0
  | a :: r, σ => a.cap * bit σ a.src * (1 - bit σ a.dst) + capOf r σ
theorem capOf_drop {es : List Arc} {i : Nat} {σ : Int} (h : i < es.length) : capOf (es.drop i) σ = (es.getD i default).cap * bit σ (es.getD i default).src * (1 - bit σ (es.getD i default).dst) + capOf (es.drop (i + 1)) σ := by
  rw [drop_getD es default i h]; rfl
theorem capOf_end {es : List Arc} {i : Nat} (σ : Int) (h : es.length ≤ i) : capOf (es.drop i) σ = 0 := by
  rw [List.drop_of_length_le h]; rfl
theorem part_in {c b : Int} (h0 : 0 ≤ c) (h1 : c ≤ 10000) (hb : b = 0 ∨ b = 1) : 0 ≤ c * b ∧ c * b ≤ 10000 := by
  rcases hb with rfl | rfl
  · simp
  · simp; omega
theorem part_in2 {c b d : Int} (h0 : 0 ≤ c) (h1 : c ≤ 10000) (hb : b = 0 ∨ b = 1) (hd : d = 0 ∨ d = 1) : 0 ≤ c * b * (1 - d) ∧ c * b * (1 - d) ≤ 10000 := by
  rcases hb with rfl | rfl <;> rcases hd with rfl | rfl <;> simp <;> omega
theorem capOf_in {n : Int} {es : List Arc} {z : Int} (hg : GOk n es 0) (hz : 0 ≤ z) : 0 ≤ capOf es z ∧ capOf es z ≤ 600000 := by
  have key : ∀ (r : List Arc), (∀ a ∈ r, 0 ≤ a.cap ∧ a.cap ≤ 10000) → 0 ≤ capOf r z ∧ capOf r z ≤ 10000 * (r.length : Int) := by
    intro r
    induction r with
    | nil => intro _; simp [capOf]
    | cons a r ih =>
      intro h
      have h1 := ih (fun b hb => h b (List.mem_cons_of_mem _ hb))
      have h2 := h a List.mem_cons_self
      have h3 := part_in2 h2.1 h2.2 (bit_01 a.src hz) (bit_01 a.dst hz)
      simp only [capOf, List.length_cons]
      omega
  have := key es (fun a ha => ⟨(hg.arc a ha).2.2.2.2.1, (hg.arc a ha).2.2.2.2.2⟩)
  have := hg.len
  omega
def pstep (s t : Int) (es : List Arc) (x : Int × Int × Int) (z : Int) : Int × Int × Int :=
  if bit z s = 0 ∨ bit z t = 1 then x else
    if x.1 < 0 ∨ capOf es z < x.1 then (capOf es z, z, z) else if capOf es z = x.1 then (x.1, iand x.2.1 z, ior x.2.2 z) else x
def parted (n s t : Int) (es : List Arc) : Int × Int × Int := (List.range (2 ^ n.toNat)).foldl (fun x (k : Nat) => pstep s t es x (k : Int)) (-1, 0, 0)
theorem pow_le12 {n : Nat} (h : n ≤ 12) : 2 ^ n ≤ 4096 := Nat.pow_le_pow_right (by decide) h
theorem iand_in {x y : Int} (_hx : 0 ≤ x) (_hx1 : x ≤ 65535) (_hy : 0 ≤ y) (_hy1 : y ≤ 65535) : 0 ≤ iand x y ∧ iand x y ≤ 65535 := by
  unfold iand
  have := Nat.and_le_left (n := x.toNat) (m := y.toNat)
  omega
theorem ior_in {x y : Int} (_hx : 0 ≤ x) (_hx1 : x ≤ 65535) (_hy : 0 ≤ y) (_hy1 : y ≤ 65535) : 0 ≤ ior x y ∧ ior x y ≤ 65535 := by
  unfold ior
  have := Nat.or_lt_two_pow (x := x.toNat) (y := y.toNat) (n := 16) (by omega) (by omega)
  omega
end Go.Ab
