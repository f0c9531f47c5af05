/- Of what a flow costs: heights by the steps that are left alone: the plain laws. -/
import Derived.Test.YtglkldhjffnhhaaPlCheap5
namespace Go.Ab
theorem parted_in {n s t : Int} {es : List Arc} (hn : NOk n s t es) : 0 ≤ (parted n s t es).1 ∧ (parted n s t es).1 ≤ 600000 := by
  obtain ⟨z, hz⟩ := MinCut.exists_ hn
  rw [← hz.2]
  exact capOf_in hn.toGOk hz.1.1
theorem most_in {n s t e v : Int} {es : List Arc} {g : List Int} (h : MostOk n s t es e g v) : 0 ≤ v ∧ v ≤ 600000 := by
  rcases h with ⟨_, _, q⟩ | ⟨_, q, _, q2⟩
  · omega
  · have := parted_in q.net; omega
def realA (es : List Arc) (cost f : List Int) : Nat → List Arc
  | 0 => []
  | m + 1 => realA es cost f m ++ ((if f.getD m 0 < (es.getD m default).cap then [⟨(es.getD m default).src, (es.getD m default).dst, cost.getD m 0⟩] else []) ++ (if 0 < f.getD m 0 then [⟨(es.getD m default).dst, (es.getD m default).src, -cost.getD m 0⟩] else []))
theorem realA_len (es : List Arc) (cost f : List Int) : ∀ m, (realA es cost f m).length ≤ 2 * m
  | 0 => Nat.le_refl _
  | m + 1 => by
    have := realA_len es cost f m
    rw [realA, List.length_append, List.length_append]
    split <;> split <;> simp <;> omega
theorem realA_mem {es : List Arc} {cost f : List Int} {a : Arc} : ∀ {m : Nat}, a ∈ realA es cost f m ↔ ∃ j, j < m ∧ ((f.getD j 0 < (es.getD j default).cap ∧ a = ⟨(es.getD j default).src, (es.getD j default).dst, cost.getD j 0⟩) ∨ (0 < f.getD j 0 ∧ a = ⟨(es.getD j default).dst, (es.getD j default).src, -cost.getD j 0⟩))
  | 0 => ⟨fun h => (by cases h), fun ⟨j, h, _⟩ => absurd h (Nat.not_lt_zero _)⟩
  | m + 1 => by
    rw [realA, List.mem_append, List.mem_append, realA_mem (m := m)]
    constructor
    · rintro (⟨j, h1, h2⟩ | h | h)
      · exact ⟨j, by omega, h2⟩
      · split at h
        · rename_i q
          exact ⟨m, by omega, .inl ⟨q, List.mem_singleton.1 h⟩⟩
        · cases h
      · split at h
        · rename_i q
          exact ⟨m, by omega, .inr ⟨q, List.mem_singleton.1 h⟩⟩
        · cases h
    · rintro ⟨j, h1, h2⟩
      rcases Nat.lt_succ_iff_lt_or_eq.1 h1 with q | q
      · exact .inl ⟨j, q, h2⟩
      · subst q
        rcases h2 with ⟨g1, g2⟩ | ⟨g1, g2⟩
        · exact .inr (.inl (by rw [if_pos g1, g2]; exact List.mem_singleton.2 rfl))
        · exact .inr (.inr (by rw [if_pos g1, g2]; exact List.mem_singleton.2 rfl))
theorem real_arcs (es : List Arc) (cost f : List Int) : ArcsOf (RS es cost f) (realA es cost f es.length) := by
  constructor
  · intro a ha
    obtain ⟨j, hj, h⟩ := realA_mem.1 ha
    left
    rcases h with ⟨g1, rfl⟩ | ⟨g1, rfl⟩
    · exact ⟨(j : Int), false, ⟨by omega, by omega, by simp only [Bool.false_eq_true, if_false, Int.toNat_natCast]; exact ⟨trivial, trivial, g1⟩⟩, by unfold stepC; simp⟩
    · exact ⟨(j : Int), true, ⟨by omega, by omega, by simp only [if_true, Int.toNat_natCast]; exact ⟨trivial, trivial, g1⟩⟩, by unfold stepC; simp⟩
  · rintro u v c ⟨k, b, ⟨k0, k1, hr⟩, rfl⟩
    cases b
    · simp only [Bool.false_eq_true, if_false] at hr
      exact ⟨_, realA_mem.2 ⟨k.toNat, by omega, .inl ⟨hr.2.2, rfl⟩⟩, hr.1, hr.2.1, by unfold stepC; simp⟩
    · simp only [if_true] at hr
      exact ⟨_, realA_mem.2 ⟨k.toNat, by omega, .inr ⟨hr.2.2, rfl⟩⟩, hr.1, hr.2.1, by unfold stepC; simp⟩
theorem real_in {n s t : Int} {es : List Arc} {cost f : List Int} (hn : NOk n s t es) (hc : CostOk es cost) : GOk n (realA es cost f es.length) (-10000) := by
  refine ⟨hn.n1, hn.n2, by have := realA_len es cost f es.length; have := hc.1; omega, fun a ha => ?_⟩
  rcases (real_arcs es cost f).1 a ha with q | ⟨q1, q2⟩
  · obtain ⟨h1, h2, h3, h4, h5, h6⟩ := q.in_ hn hc
    exact ⟨h1, h2, h3, h4, by omega, by omega⟩
  · obtain ⟨j, hj, h⟩ := realA_mem.1 ha
    obtain ⟨a1, a2, a3, a4, _, _⟩ := hn.at_ hj
    unfold ArcOk
    rw [q1, q2]
    rcases h with ⟨_, rfl⟩ | ⟨_, rfl⟩ <;> simp only <;> omega
theorem real_yy {es : List Arc} {cost f : List Int} {m : Nat} (h1 : f.getD m 0 < (es.getD m default).cap) (h2 : 0 < f.getD m 0) : realA es cost f (m + 1) = realA es cost f m ++ [⟨(es.getD m default).src, (es.getD m default).dst, cost.getD m 0⟩] ++ [⟨(es.getD m default).dst, (es.getD m default).src, -cost.getD m 0⟩] := by rw [realA, if_pos h1, if_pos h2, List.append_assoc]
theorem real_yn {es : List Arc} {cost f : List Int} {m : Nat} (h1 : f.getD m 0 < (es.getD m default).cap) (h2 : ¬ 0 < f.getD m 0) : realA es cost f (m + 1) = realA es cost f m ++ [⟨(es.getD m default).src, (es.getD m default).dst, cost.getD m 0⟩] := by rw [realA, if_pos h1, if_neg h2, List.append_nil]
theorem real_ny {es : List Arc} {cost f : List Int} {m : Nat} (h1 : ¬ f.getD m 0 < (es.getD m default).cap) (h2 : 0 < f.getD m 0) : realA es cost f (m + 1) = realA es cost f m ++ [⟨(es.getD m default).dst, (es.getD m default).src, -cost.getD m 0⟩] := by rw [realA, if_neg h1, if_pos h2, List.nil_append]
theorem real_nn {es : List Arc} {cost f : List Int} {m : Nat} (h1 : ¬ f.getD m 0 < (es.getD m default).cap) (h2 : ¬ 0 < f.getD m 0) : realA es cost f (m + 1) = realA es cost f m := by rw [realA, if_neg h1, if_neg h2, List.append_nil, List.append_nil]
end Go.Ab
