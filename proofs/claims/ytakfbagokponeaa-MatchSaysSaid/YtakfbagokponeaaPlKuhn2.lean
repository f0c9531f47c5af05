/- Of pairs of two sides: what holds them all: the masks. -/
import Derived.Test.YtakfbagokponeaaPlKuhn
import Derived.Test.YtakfbagokponeaaPlA
namespace Go.Ab
def fullM (m : Int) : Int := 1 * 2 ^ m.toNat - 1
def freeTo (l : List Arc) (m : Int) (M : List Int) : Nat → Int
  | 0 => fullM m
  | k + 1 => if 0 ≤ M.getD k 0 then iandn (freeTo l m M k) (1 * 2 ^ (lfM l M k).toNat) else freeTo l m M k
def secTo (l : List Arc) (F S : Int) : Nat → Int
  | 0 => S
  | k + 1 => if bit F (l.getD k default).src = 1 then ior (secTo l F S k) (1 * 2 ^ (l.getD k default).dst.toNat) else secTo l F S k
def fstTo (l : List Arc) (M : List Int) (S F : Int) : Nat → Int
  | 0 => F
  | y + 1 => if 0 ≤ M.getD y 0 ∧ bit S (y : Int) = 1 then ior (fstTo l M S F y) (1 * 2 ^ (lfM l M y).toNat) else fstTo l M S F y
def rndTo (l : List Arc) (m : Int) (M : List Int) : Nat → Int × Int
  | 0 => (freeTo l m M M.length, 0)
  | r + 1 => (fstTo l M (secTo l (rndTo l m M r).1 (rndTo l m M r).2 l.length) (rndTo l m M r).1 M.length, secTo l (rndTo l m M r).1 (rndTo l m M r).2 l.length)
/-! ### Their bits -/
def B16 (z : Int) : Prop := 0 ≤ z ∧ z ≤ 65535
theorem pow16 {k : Nat} (h : k ≤ 12) : 1 ≤ (1 : Int) * 2 ^ k ∧ (1 : Int) * 2 ^ k ≤ 4096 := by
  have h1 : (2 : Nat) ^ k ≤ 2 ^ 12 := Nat.pow_le_pow_right (by omega) h
  have h2 : 0 < (2 : Nat) ^ k := Nat.pow_pos (by omega)
  rw [pow_nat]; omega
theorem B16.ior {a b : Int} (ha : B16 a) (hb : B16 b) : B16 (ior a b) := by
  refine ⟨ior0 _ _, ?_⟩
  have := lt_has (z := Go.Ab.ior a b) (n := 16) (ior0 _ _) (fun v hv => by
    rw [has_ior, has_lt ha.1 (n := 16) (by have := ha.2; omega) hv, has_lt hb.1 (n := 16) (by have := hb.2; omega) hv]; rfl)
  omega
theorem B16.iandn {a b : Int} (ha : B16 a) : B16 (iandn a b) := by
  refine ⟨iandn0 _ _, ?_⟩
  have := lt_has (z := Go.Ab.iandn a b) (n := 16) (iandn0 _ _) (fun v hv => by
    rw [has_iandn, has_lt ha.1 (n := 16) (by have := ha.2; omega) hv]; rfl)
  omega
theorem full_16 {m : Int} (h : m ≤ 12) : B16 (fullM m) := by
  have := pow16 (k := m.toNat) (by omega)
  unfold fullM B16; omega
theorem free_16 {l : List Arc} {m : Int} {M : List Int} (h : m ≤ 12) : ∀ k, B16 (freeTo l m M k)
  | 0 => full_16 h
  | k + 1 => by
    rw [freeTo]
    split
    · exact (free_16 h k).iandn
    · exact free_16 h k
theorem pow_16 {k : Nat} (h : k ≤ 12) : B16 (1 * 2 ^ k) := by have := pow16 h; unfold B16; omega
theorem sec_16 {l : List Arc} {F S : Int} (hd : ∀ k, k < l.length → (l.getD k default).dst.toNat ≤ 12) (hS : B16 S) : ∀ k, k ≤ l.length → B16 (secTo l F S k)
  | 0, _ => hS
  | k + 1, h => by
    rw [secTo]
    split
    · exact (sec_16 hd hS k (by omega)).ior (pow_16 (hd k (by omega)))
    · exact sec_16 hd hS k (by omega)
theorem fst_16 {l : List Arc} {M : List Int} {S F : Int} (hs : ∀ y, y < M.length → (lfM l M y).toNat ≤ 12) (hF : B16 F) : ∀ y, y ≤ M.length → B16 (fstTo l M S F y)
  | 0, _ => hF
  | y + 1, h => by
    rw [fstTo]
    split
    · exact (fst_16 hs hF y (by omega)).ior (pow_16 (hs y (by omega)))
    · exact fst_16 hs hF y (by omega)
theorem rnd_16 {l : List Arc} {m : Int} {M : List Int} (h : m ≤ 12) (hd : ∀ k, k < l.length → (l.getD k default).dst.toNat ≤ 12) (hs : ∀ y, y < M.length → (lfM l M y).toNat ≤ 12) : ∀ r, B16 (rndTo l m M r).1 ∧ B16 (rndTo l m M r).2
  | 0 => ⟨free_16 h _, by show B16 0; exact ⟨by omega, by omega⟩⟩
  | r + 1 => by
    obtain ⟨h1, h2⟩ := rnd_16 h hd hs r
    have h3 := sec_16 (F := (rndTo l m M r).1) hd h2 l.length (Nat.le_refl _)
    exact ⟨fst_16 hs h1 _ (Nat.le_refl _), h3⟩
theorem lf_le {l : List Arc} {n : Nat} {M : List Int} {m : Int} (hM : OkM l n M) (hs : ∀ k, k < l.length → 0 ≤ (l.getD k default).src ∧ (l.getD k default).src < m) (hm : m ≤ 12) (y : Nat) (hy : y < M.length) : (lfM l M y).toNat ≤ 12 := by
  have h1 := hM.2 y (by rw [← hM.1]; exact hy)
  unfold lfM
  by_cases h : (M.getD y 0).toNat < l.length
  · have := hs _ h; omega
  · rw [List.getD_eq_getElem?_getD, List.getElem?_eq_none (by omega)]; decide
def shortErr (m n : Int) (l : List Arc) : Int := if matchErr m n l ≠ 0 then matchErr m n l else if (cntM (matesP l n.toNat m.toNat) : Int) = m then 5 else 0
end Go.Ab
