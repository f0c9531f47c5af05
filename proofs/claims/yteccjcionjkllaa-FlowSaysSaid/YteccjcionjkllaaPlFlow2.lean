/- Of flows: sums at the nodes: the plain laws. -/
import Derived.Test.YteccjcionjkllaaPlFlow
namespace Go.Ab
theorem getD_zeros (k n : Nat) : (List.replicate n (0 : Int)).getD k 0 = 0 := by
  rw [List.getD_eq_getElem?_getD, List.getElem?_replicate]
  split <;> rfl
theorem getD_zeros12 (k : Nat) : ([0, 0, 0, 0, 0, 0, 0, 0, 0, 0, 0, 0] : List Int).getD k 0 = 0 := getD_zeros k 12
theorem arr12 (m : List Int) (h : m.length = 12) : [m.getD 0 0, m.getD 1 0, m.getD 2 0, m.getD 3 0, m.getD 4 0, m.getD 5 0, m.getD 6 0, m.getD 7 0, m.getD 8 0, m.getD 9 0, m.getD 10 0, m.getD 11 0] = m := by
  match m, h with
  | [_, _, _, _, _, _, _, _, _, _, _, _], _ => rfl
theorem set2_get (m : List Int) (a b k : Nat) (u w : Int) (ha : a < m.length) (hb : b < m.length) : ((m.set a u).set b w).getD k 0 = if k = b then w else if k = a then u else m.getD k 0 := by
  by_cases h1 : k = b
  · subst h1; rw [if_pos rfl, getD_set_self _ _ _ _ (by simpa using hb)]
  · rw [if_neg h1, getD_set_ne _ _ _ _ _ (Ne.symm h1)]
    by_cases h2 : k = a
    · subst h2; rw [if_pos rfl, getD_set_self _ _ _ _ ha]
    · rw [if_neg h2, getD_set_ne _ _ _ _ _ (Ne.symm h2)]
theorem set1_get (m : List Int) (a k : Nat) (u : Int) (ha : a < m.length) : (m.set a u).getD k 0 = if k = a then u else m.getD k 0 := by
  by_cases h2 : k = a
  · subst h2; rw [if_pos rfl, getD_set_self _ _ _ _ ha]
  · rw [if_neg h2, getD_set_ne _ _ _ _ _ (Ne.symm h2)]
/-- One arc's part is carried over. -/
theorem check_step {es : List Arc} {f m : List Int} {n : Int} {i : Nat} (hm : m.length = 12) (h12 : n ≤ 12) (hlen : f.length = es.length) (hi : i < es.length)
    (a1 : 0 ≤ (es.getD i default).src) (a2 : (es.getD i default).src < n) (a3 : 0 ≤ (es.getD i default).dst) (a4 : (es.getD i default).dst < n)
    (hg : ∀ k, k < 12 → m.getD k 0 = gone (es.drop i) (f.drop i) (k : Int) - gone es f (k : Int)) (k : Nat) (hk : k < 12) :
    ((m.set (es.getD i default).src.toNat (m.getD (es.getD i default).src.toNat 0 - f.getD i 0)).set (es.getD i default).dst.toNat
      ((m.set (es.getD i default).src.toNat (m.getD (es.getD i default).src.toNat 0 - f.getD i 0)).getD (es.getD i default).dst.toNat 0 + f.getD i 0)).getD k 0 = gone (es.drop (i + 1)) (f.drop (i + 1)) (k : Int) - gone es f (k : Int) := by
  have h0 := hg k hk
  rw [gone_drop (k : Int) hi hlen] at h0
  rw [set2_get _ _ _ _ _ _ (by omega) (by omega), set1_get _ _ _ _ (by omega)]
  generalize hs : (es.getD i default).src = a at *
  generalize hd : (es.getD i default).dst = b at *
  by_cases e1 : k = b.toNat
  · rw [if_pos e1]
    rw [if_pos (show b = (k : Int) by omega)] at h0
    by_cases e2 : b.toNat = a.toNat
    · rw [if_pos e2]
      rw [if_pos (show a = (k : Int) by omega)] at h0
      rw [show a.toNat = k by omega]
      omega
    · rw [if_neg e2]
      rw [if_neg (show ¬ a = (k : Int) by omega)] at h0
      rw [show b.toNat = k by omega]
      omega
  · rw [if_neg e1]
    rw [if_neg (show ¬ b = (k : Int) by omega)] at h0
    by_cases e2 : k = a.toNat
    · rw [if_pos e2]
      rw [if_pos (show a = (k : Int) by omega)] at h0
      rw [show a.toNat = k by omega]
      omega
    · rw [if_neg e2]
      rw [if_neg (show ¬ a = (k : Int) by omega)] at h0
      omega
theorem check_bound {m : List Int} {i : Nat} {x a b : Int} (hm : m.length = 12) (a1 : 0 ≤ a) (a2 : a < 12) (a3 : 0 ≤ b) (a4 : b < 12) (x0 : 0 ≤ x) (x1 : x ≤ 10000) (hb : ∀ k, -(10000 * (i : Int)) ≤ m.getD k 0 ∧ m.getD k 0 ≤ 10000 * (i : Int)) (k : Nat) :
    -(10000 * ((i + 1 : Nat) : Int)) ≤ ((m.set a.toNat (m.getD a.toNat 0 - x)).set b.toNat ((m.set a.toNat (m.getD a.toNat 0 - x)).getD b.toNat 0 + x)).getD k 0 ∧
    ((m.set a.toNat (m.getD a.toNat 0 - x)).set b.toNat ((m.set a.toNat (m.getD a.toNat 0 - x)).getD b.toNat 0 + x)).getD k 0 ≤ 10000 * ((i + 1 : Nat) : Int) := by
  rw [set2_get _ _ _ _ _ _ (by omega) (by omega), set1_get _ _ _ _ (by omega)]
  have h1 := hb k
  have h2 := hb a.toNat
  have h3 := hb b.toNat
  split
  · split <;> omega
  · split <;> omega
theorem lost_far {n s t : Int} {es : List Arc} {f : List Int} (h : NOk n s t es) {k : Nat} (hk : gone es f (k : Int) ≠ 0) (hs : (k : Int) ≠ s) (ht : (k : Int) ≠ t) : lost n s t es f := by
  refine ⟨k, ?_, hs, ht, hk⟩
  rcases Int.lt_or_le (k : Int) n with h1 | h1
  · omega
  · exact absurd (gone_far (fun a ha => ⟨(h.arc a ha).1, (h.arc a ha).2.1, (h.arc a ha).2.2.1, (h.arc a ha).2.2.2.1⟩) h1) hk
/-- A flow of a net. -/
structure FlOk (n s t : Int) (es : List Arc) (f : List Int) : Prop where
  net : NOk n s t es
  fin : FIn es f
  kept : ∀ k : Nat, (k : Int) ≠ s → (k : Int) ≠ t → gone es f (k : Int) = 0
theorem FlOk.f10 {n s t : Int} {es : List Arc} {f : List Int} (h : FlOk n s t es f) (k : Nat) (hk : k < es.length) : 0 ≤ f.getD k 0 ∧ f.getD k 0 ≤ 10000 := by
  have h1 := h.fin.at_ k hk
  obtain ⟨_, _, _, _, _, h2⟩ := h.net.at_ hk
  omega
theorem flowErr_ok {n s t : Int} {es : List Arc} {f : List Int} (h : flowErr n s t es f = 0) : FlOk n s t es f := by
  unfold flowErr at h
  split at h
  · rename_i h1; exact absurd h h1
  · rename_i h1
    have hn := netErr_ok (Decidable.not_not.1 h1)
    split at h
    · cases h
    · rename_i h2
      split at h
      · cases h
      · rename_i h3
        split at h
        · cases h
        · rename_i h4
          refine ⟨hn, over_in (Decidable.not_not.1 h2) (by simpa using h3), fun k hs ht => ?_⟩
          cases Int.decEq (gone es f (k : Int)) 0 with
          | isTrue h => exact h
          | isFalse h => exact absurd (lost_far hn h hs ht) h4
theorem flowErr_of {n s t : Int} {es : List Arc} {f : List Int} (h : FlOk n s t es f) (hn : netErr n s t es = 0) : flowErr n s t es f = 0 := by
  unfold flowErr
  rw [if_neg (by omega), if_neg (by have := h.fin.len; omega), if_neg ?_, if_neg ?_]
  · rintro ⟨k, _, h1, h2, h3⟩
    exact h3 (h.kept k h1 h2)
  · intro ho
    have : ∀ {es : List Arc} {f : List Int}, FIn es f → over es f = false := by
      intro es
      induction es with
      | nil => intro f _; rfl
      | cons a r ih =>
        intro f hf
        cases f with
        | nil => rfl
        | cons x q =>
          have h0 := hf.at_ 0 (by simp)
          simp only [List.getD_cons_zero] at h0
          simp only [over, Bool.or_eq_false_iff, decide_eq_false_iff_not]
          refine ⟨⟨by omega, by omega⟩, ih ⟨by have := hf.len; simpa using this, fun k hk => ?_⟩⟩
          have := hf.at_ (k + 1) (by simpa using hk)
          simpa using this
    rw [this h.fin] at ho; cases ho
end Go.Ab
