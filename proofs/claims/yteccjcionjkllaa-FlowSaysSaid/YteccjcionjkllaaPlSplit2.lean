/- Of a flow's pieces, taken off one behind the other: the plain laws. -/
import Derived.Test.YteccjcionjkllaaPlSplit
import Derived.Test.YteccjcionjkllaaPlSort
namespace Go.Ab
theorem sorted_strict {l : List Int} (hn : l.Nodup) (i : Nat) (h : i + 1 < (sorted l).length) : (sorted l).getD i 0 ≠ (sorted l).getD (i + 1) 0 :=
  nodup_at (hn.perm (sorted_perm l).symm) (by omega) h
theorem usedOf_append (k : Nat) : ∀ a b : List (Int × List Int), usedOf k (a ++ b) = usedOf k a + usedOf k b
  | [], b => by simp [usedOf]
  | p :: r, b => by simp only [List.cons_append, usedOf, usedOf_append k r b]; omega
def PcOk (es : List Arc) (p : Int × List Int) : Prop := ∃ x y, Pc es p x y
theorem usedOf_nonneg {es : List Arc} (k : Nat) : ∀ {l : List (Int × List Int)}, (∀ p ∈ l, PcOk es p) → 0 ≤ usedOf k l
  | [], _ => by simp [usedOf]
  | p :: r, h => by
    obtain ⟨x, y, hp⟩ := h p List.mem_cons_self
    have h1 := hp.a1
    have h2 := usedOf_nonneg k (fun q hq => h q (List.mem_cons_of_mem _ hq))
    simp only [usedOf]
    split <;> omega
def leftAt (f : List Int) (ps : List (Int × List Int)) : List Int := ps.foldl (fun l p => takeOff p.1 l p.2) f
theorem leftAt_step {f : List Int} {ps : List (Int × List Int)} {i : Nat} (hi : i < ps.length) : leftAt f (ps.take (i + 1)) = takeOff (ps.getD i (0, [])).1 (leftAt f (ps.take i)) (ps.getD i (0, [])).2 := by
  rw [take_getD ps (0, []) i hi, leftAt, leftAt, List.foldl_append]; rfl
theorem leftAt_at {es : List Arc} {f : List Int} (hl : f.length = es.length) : ∀ {ps : List (Int × List Int)} (i : Nat), i ≤ ps.length → (∀ p ∈ ps, PcOk es p) → (leftAt f (ps.take i)).length = es.length ∧ ∀ j, (leftAt f (ps.take i)).getD j 0 = f.getD j 0 - usedOf j (ps.take i)
  | ps, 0, _, _ => ⟨by simpa [leftAt] using hl, fun j => by simp [leftAt, usedOf]⟩
  | ps, i + 1, hi, h => by
    obtain ⟨h1, h2⟩ := leftAt_at hl (ps := ps) i (by omega) h
    obtain ⟨x, y, hp⟩ := h _ (getD_mem (d := (0, [])) (show i < ps.length by omega))
    rw [leftAt_step (by omega)]
    refine ⟨by rw [takeOff_len]; exact h1, fun j => ?_⟩
    rw [takeOff_at _ _ _ hp.nd (fun k hk => by rw [h1]; exact hp.kr k hk), h2, take_getD ps (0, []) i (by omega), usedOf_snoc]
    omega
theorem leftAt_room {es : List Arc} {f : List Int} (hl : f.length = es.length) {ps : List (Int × List Int)} (h : ∀ p ∈ ps, PcOk es p) (hf : ∀ j, j < es.length → usedOf j ps = f.getD j 0) (hb : InB f) {i : Nat} (hi : i < ps.length) :
    (∀ j, 0 ≤ (leftAt f (ps.take i)).getD j 0 ∧ (leftAt f (ps.take i)).getD j 0 ≤ 10000) ∧ ∀ k ∈ (ps.getD i (0, [])).2, (ps.getD i (0, [])).1 ≤ (leftAt f (ps.take i)).getD k.toNat 0 := by
  obtain ⟨h1, h2⟩ := leftAt_at hl i (by omega) h
  have hsplit : ∀ j, usedOf j ps = usedOf j (ps.take i) + ((if (j : Int) ∈ (ps.getD i (0, [])).2 then (ps.getD i (0, [])).1 else 0) + usedOf j (ps.drop (i + 1))) := fun j => by
    conv => lhs; rw [← List.take_append_drop i ps]
    rw [usedOf_append, drop_getD ps (0, []) i hi]
    rfl
  obtain ⟨x, y, hp⟩ := h _ (getD_mem (d := (0, [])) hi)
  have ha := hp.a1
  have n1 := fun j => usedOf_nonneg (es := es) j (l := ps.take i) (fun p q => h p (List.mem_of_mem_take q))
  have n2 := fun j => usedOf_nonneg (es := es) j (l := ps.drop (i + 1)) (fun p q => h p (List.mem_of_mem_drop q))
  refine ⟨fun j => ?_, fun k hk => ?_⟩
  · have := n1 j
    have := n2 j
    have := hb j
    by_cases hj : j < es.length
    · have := hf j hj
      have := hsplit j
      rw [h2]
      split at this <;> omega
    · rw [getD_ge _ _ _ (by omega)]; omega
  · have hkr := hp.kr k hk
    have := n2 k.toNat
    have := hf k.toNat (by omega)
    have e := hsplit k.toNat
    rw [show ((k.toNat : Nat) : Int) = k by omega, if_pos hk] at e
    rw [h2]
    omega
theorem leftAt_end {es : List Arc} {f : List Int} (hl : f.length = es.length) {ps : List (Int × List Int)} (h : ∀ p ∈ ps, PcOk es p) (hf : ∀ j, j < es.length → usedOf j ps = f.getD j 0) {i : Nat} (hi : ps.length ≤ i) : (leftAt f (ps.take i)).any (fun x => decide (x ≠ 0)) = false := by
  rw [List.take_of_length_le hi]
  obtain ⟨h1, h2⟩ := leftAt_at hl ps.length (Nat.le_refl _) h
  rw [List.take_length] at h1 h2
  rw [Bool.eq_false_iff]
  intro hc
  obtain ⟨x, hx, hx2⟩ := List.any_eq_true.1 hc
  obtain ⟨j, hj, e⟩ := mem_getD 0 hx
  have := hf j (by omega)
  have := h2 j
  simp at hx2
  omega
theorem sumOf_step {ps : List (Int × List Int)} {i : Nat} (hi : i < ps.length) : sumOf (ps.take (i + 1)) = sumOf (ps.take i) + (ps.getD i (0, [])).1 := by
  rw [take_getD ps (0, []) i hi, sumOf_snoc]
theorem append_at {α : Type} {a b : List α} {d : α} {i : Nat} : (a ++ b).getD i d = if i < a.length then a.getD i d else b.getD (i - a.length) d := by
  simp only [List.getD_eq_getElem?_getD, List.getElem?_append]
  split <;> rfl
theorem way_src {es : List Arc} {B : List Int} {x y : Int} (h : isWay es B x y = true) (hB : B ≠ []) : (es.getD (B.getD 0 0).toNat default).src = x ∧ 0 ≤ B.getD 0 0 ∧ B.getD 0 0 < es.length := by
  cases B with
  | nil => exact absurd rfl hB
  | cons k r =>
    simp only [isWay, Bool.and_eq_true, decide_eq_true_eq] at h
    exact ⟨h.1.2.2, h.1.1, h.1.2.1⟩
/-- The sum of some first ones lies between nothing and all. -/
theorem sumOf_take {es : List Arc} {ps : List (Int × List Int)} (h : ∀ p ∈ ps, PcOk es p) (i : Nat) : 0 ≤ sumOf (ps.take i) ∧ sumOf (ps.take i) ≤ sumOf ps := by
  have key : ∀ (l : List (Int × List Int)), (∀ p ∈ l, PcOk es p) → 0 ≤ sumOf l := by
    intro l
    induction l with
    | nil => intro _; simp [sumOf]
    | cons p r ih =>
      intro hl
      obtain ⟨x, y, hp⟩ := hl p List.mem_cons_self
      have := hp.a1
      have := ih (fun q hq => hl q (List.mem_cons_of_mem _ hq))
      simp only [sumOf]
      omega
  have app : ∀ (a b : List (Int × List Int)), sumOf (a ++ b) = sumOf a + sumOf b := by
    intro a
    induction a with
    | nil => intro b; simp [sumOf]
    | cons p r ih => intro b; simp only [List.cons_append, sumOf, ih b]; omega
  have e := app (ps.take i) (ps.drop i)
  rw [List.take_append_drop] at e
  have h1 := key (ps.take i) (fun p q => h p (List.mem_of_mem_take q))
  have h2 := key (ps.drop i) (fun p q => h p (List.mem_of_mem_drop q))
  omega
end Go.Ab
