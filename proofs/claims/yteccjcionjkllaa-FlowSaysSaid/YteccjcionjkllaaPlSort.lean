/- Of sorted lists, and of lists that hold each number once: the plain laws. -/
import Derived.Test.YteccjcionjkllaaPlIdx
namespace Go.Ab
def sorted (zs : List Int) : List Int := zs.mergeSort fun x y => decide (x ≤ y)
theorem sorted_len (zs : List Int) : (sorted zs).length = zs.length := List.length_mergeSort zs
theorem sorted_perm (zs : List Int) : (sorted zs).Perm zs := List.mergeSort_perm zs _
theorem sorted_le (zs : List Int) : (sorted zs).Pairwise (· ≤ ·) := by
  have h := List.pairwise_mergeSort (le := fun x y : Int => decide (x ≤ y)) (by intro a b c; simp; omega) (by intro a b; simp; omega) zs
  exact h.imp fun h => by simpa using h
theorem perm_of_sub {α : Type} [DecidableEq α] : ∀ (r l : List α), r.Nodup → (∀ x ∈ r, x ∈ l) → l.length ≤ r.length → r.Perm l
  | [], l, _, _, h => by
    have : l = [] := List.eq_nil_of_length_eq_zero (by simpa using h)
    subst this; exact List.Perm.refl _
  | x :: r, l, hn, hs, h => by
    obtain ⟨h1, h2⟩ := List.nodup_cons.1 hn
    have hx := hs x List.mem_cons_self
    have hp := List.perm_cons_erase hx
    have hl := hp.length_eq
    refine (List.Perm.cons x (perm_of_sub r (l.erase x) h2 (fun y hy => ?_) (by simp only [List.length_cons] at h hl; omega))).trans hp.symm
    have : y ∈ x :: l.erase x := hp.mem_iff.1 (hs y (List.mem_cons_of_mem _ hy))
    rcases List.mem_cons.1 this with rfl | h3
    · exact absurd hy h1
    · exact h3
/-- The numbers below n. -/
def idsOf (n : Nat) : List Int := (List.range n).map fun (k : Nat) => (k : Int)
theorem ids_len (n : Nat) : (idsOf n).length = n := by simp [idsOf]
theorem ids_at {n k : Nat} (h : k < n) : (idsOf n).getD k 0 = (k : Int) := by
  rw [getD_lt (idsOf n) 0 k (by simpa [idsOf] using h)]; simp [idsOf]
theorem ids_mem {n : Nat} {x : Int} : x ∈ idsOf n ↔ ∃ k, k < n ∧ x = ((k : Nat) : Int) := by
  simp only [idsOf, List.mem_map, List.mem_range]
  exact ⟨fun ⟨k, h1, h2⟩ => ⟨k, h1, h2.symm⟩, fun ⟨k, h1, h2⟩ => ⟨k, h1, h2.symm⟩⟩
theorem ids_nodup (n : Nat) : (idsOf n).Nodup := by
  unfold idsOf
  exact List.Pairwise.map _ (fun a b h q => h (by omega)) List.nodup_range
theorem ids_le (n : Nat) : (idsOf n).Pairwise (· ≤ ·) := by
  unfold idsOf
  exact List.Pairwise.map _ (fun a b h => by omega) List.pairwise_lt_range
/-- The list holds each number below n, once. -/
def isFull (n : Nat) (l : List Int) : Prop := l.length = n ∧ ∀ k, k < n → ((k : Nat) : Int) ∈ l
def fullB (n : Nat) (l : List Int) : Bool := decide (l.length = n) && (List.range n).all fun k => decide ((k : Int) ∈ l)
theorem fullB_iff {n : Nat} {l : List Int} : fullB n l = true ↔ isFull n l := by
  simp only [fullB, Bool.and_eq_true, decide_eq_true_eq, List.all_eq_true, List.mem_range, isFull]
theorem fullB_no {n : Nat} {l : List Int} (h : ¬ isFull n l) : fullB n l = false := by
  cases e : fullB n l
  · rfl
  · exact absurd (fullB_iff.1 e) h
theorem isFull.perm {n : Nat} {l : List Int} (h : isFull n l) : (idsOf n).Perm l :=
  perm_of_sub _ _ (ids_nodup n) (fun x hx => by obtain ⟨k, h1, rfl⟩ := ids_mem.1 hx; exact h.2 k h1) (by rw [ids_len, h.1]; exact Nat.le_refl _)
theorem isFull.sorted_ {n : Nat} {l : List Int} (h : isFull n l) : sorted l = idsOf n :=
  ((sorted_perm l).trans h.perm.symm).eq_of_pairwise (fun a b _ _ h1 h2 => Int.le_antisymm h1 h2) (sorted_le l) (ids_le n)
theorem isFull.nodup {n : Nat} {l : List Int} (h : isFull n l) : l.Nodup := (ids_nodup n).perm h.perm
theorem isFull.in_ {n : Nat} {l : List Int} (h : isFull n l) {x : Int} (hx : x ∈ l) : 0 ≤ x ∧ x < n := by
  obtain ⟨k, h1, rfl⟩ := ids_mem.1 (h.perm.mem_iff.2 hx)
  omega
theorem isFull.at_ {n : Nat} {l : List Int} (h : isFull n l) {i : Nat} (hi : i < n) : 0 ≤ l.getD i 0 ∧ l.getD i 0 < n := h.in_ (getD_mem (by rw [h.1]; exact hi))
theorem full_of_sorted {l : List Int} (h : ∀ k, k < l.length → (sorted l).getD k 0 = (k : Int)) : isFull l.length l := by
  refine ⟨rfl, fun k hk => ?_⟩
  rw [← h k hk]
  exact (sorted_perm l).mem_iff.1 (getD_mem (by rw [sorted_len]; exact hk))
theorem not_full_of_sorted {l : List Int} {n k : Nat} (hk : k < l.length) (h : (sorted l).getD k 0 ≠ (k : Int)) : ¬ isFull n l := fun q => by
  rw [q.sorted_] at h
  exact h (ids_at (by rw [← q.1]; exact hk))
theorem fullB_is {l : List Int} {m : Nat} (h : isFull l.length l) : decide (((l.length : Nat) : Int) = ((m : Nat) : Int)) = fullB m l := by
  by_cases q : l.length = m
  · subst q; rw [fullB_iff.2 h]; simp
  · rw [fullB_no (fun q2 => q q2.1)]; exact decide_eq_false (by omega)
end Go.Ab
