/- Of graphs whose arcs go both ways: the plain laws. -/
import Derived.Test.YteccjcionjkllaaPlSpread
namespace Go.Ab
def backA (a : Arc) : Arc := ⟨a.dst, a.src, a.cap⟩
/-- Each arc, and it turned round. -/
def inter : List Arc → List Arc
  | [] => []
  | a :: r => a :: backA a :: inter r
def bothA (es : List Arc) : List Arc := es ++ es.map backA
theorem inter_len : ∀ es : List Arc, (inter es).length = 2 * es.length
  | [] => rfl
  | a :: r => by simp only [inter, List.length_cons, inter_len r]; omega
theorem inter_snoc : ∀ (es : List Arc) (a : Arc), inter (es ++ [a]) = inter es ++ [a, backA a]
  | [], _ => rfl
  | b :: r, a => by simp only [List.cons_append, inter, inter_snoc r a]
theorem capOf_append (z : Int) : ∀ (xs ys : List Arc), capOf (xs ++ ys) z = capOf xs z + capOf ys z
  | [], ys => by simp [capOf]
  | a :: r, ys => by simp only [List.cons_append, capOf, capOf_append z r ys]; omega
theorem capOf_inter (z : Int) : ∀ es : List Arc, capOf (inter es) z = capOf (bothA es) z
  | [] => rfl
  | a :: r => by
    have := capOf_inter z r
    unfold bothA at this ⊢
    rw [capOf_append] at this ⊢
    simp only [inter, capOf, List.map_cons, this]
    omega
theorem parted_congr {n s t : Int} {es fs : List Arc} (h : ∀ z, capOf es z = capOf fs z) : parted n s t es = parted n s t fs := by
  unfold parted
  have : (fun (x : Int × Int × Int) (k : Nat) => pstep s t es x (k : Int)) = fun (x : Int × Int × Int) (k : Nat) => pstep s t fs x (k : Int) := by
    funext x k
    unfold pstep
    rw [h]
  rw [this]
theorem parted_inter (n s t : Int) (es : List Arc) : parted n s t (inter es) = parted n s t (bothA es) := parted_congr fun z => capOf_inter z es
theorem mem_inter {a : Arc} : ∀ {es : List Arc}, a ∈ inter es → ∃ b ∈ es, a = b ∨ a = backA b
  | b :: r, h => by
    simp only [inter, List.mem_cons] at h
    rcases h with rfl | rfl | h
    · exact ⟨_, List.mem_cons_self, .inl rfl⟩
    · exact ⟨_, List.mem_cons_self, .inr rfl⟩
    · obtain ⟨c, hc, he⟩ := mem_inter h
      exact ⟨c, List.mem_cons_of_mem _ hc, he⟩
def pairErr (n : Int) (es : List Arc) : Int := if graphErr n es 0 ≠ 0 then graphErr n es 0 else if 30 < es.length then 2 else 0
theorem pairErr_ok {n : Int} {es : List Arc} (h : pairErr n es = 0) : GOk n es 0 ∧ es.length ≤ 30 := by
  unfold pairErr at h
  split at h
  · rename_i h1; exact absurd h h1
  · rename_i h1
    split at h
    · cases h
    · exact ⟨graphErr_ok (Decidable.not_not.1 h1), by omega⟩
theorem GOk.inter {n : Int} {es : List Arc} (h : GOk n es 0) (h30 : es.length ≤ 30) : GOk n (inter es) 0 :=
  ⟨h.n1, h.n2, by rw [inter_len]; omega, fun a ha => by
    obtain ⟨b, hb, he⟩ := mem_inter ha
    obtain ⟨h1, h2, h3, h4, h5, h6⟩ := h.arc b hb
    rcases he with rfl | rfl
    · exact ⟨h1, h2, h3, h4, h5, h6⟩
    · exact ⟨h3, h4, h1, h2, h5, h6⟩⟩
theorem GOk.both {n : Int} {es : List Arc} (h : GOk n es 0) (h30 : es.length ≤ 30) : GOk n (bothA es) 0 :=
  ⟨h.n1, h.n2, by unfold bothA; simp; omega, fun a ha => by
    rcases List.mem_append.1 ha with ha | ha
    · exact h.arc a ha
    · obtain ⟨b, hb, rfl⟩ := List.mem_map.1 ha
      obtain ⟨h1, h2, h3, h4, h5, h6⟩ := h.arc b hb
      exact ⟨h3, h4, h1, h2, h5, h6⟩⟩
def partErr (n s t : Int) (es : List Arc) : Int := if pairErr n es ≠ 0 then pairErr n es else if s < 0 ∨ n ≤ s ∨ t < 0 ∨ n ≤ t then 4 else if s = t then 3 else 0
theorem partErr_net {n s t : Int} {es : List Arc} (h : pairErr n es = 0) : netErr n s t (inter es) = partErr n s t es := by
  obtain ⟨h1, h2⟩ := pairErr_ok h
  unfold netErr partErr
  rw [(h1.inter h2).err, if_neg (show ¬ ((0 : Int) ≠ 0) by simp), if_neg (show ¬ (pairErr n es ≠ 0) by omega)]
theorem partErr_ok {n s t : Int} {es : List Arc} (h : partErr n s t es = 0) : NOk n s t (inter es) ∧ NOk n s t (bothA es) ∧ es.length ≤ 30 ∧ pairErr n es = 0 := by
  unfold partErr at h
  split at h
  · rename_i h1; exact absurd h h1
  · rename_i h0
    have h0 : pairErr n es = 0 := Decidable.not_not.1 h0
    obtain ⟨h1, h2⟩ := pairErr_ok h0
    split at h
    · cases h
    · split at h
      · cases h
      · exact ⟨⟨h1.inter h2, by omega, by omega, by omega, by omega, by omega⟩, ⟨h1.both h2, by omega, by omega, by omega, by omega, by omega⟩, h2, h0⟩
end Go.Ab
