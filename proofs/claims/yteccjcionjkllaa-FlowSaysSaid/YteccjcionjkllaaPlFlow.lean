/- Of flows: the plain laws. -/
import Derived.Test.YteccjcionjkllaaPlGraph
namespace Go.Ab
/-- How much more goes from a node than to it. -/
def gone : List Arc → List Int → Int → Int
  | a :: r, x :: q, v => (if a.src = v then x else 0) - (if a.dst = v then x else 0) + gone r q v
  | _, _, _ => 0
theorem gone_drop {es : List Arc} {f : List Int} {i : Nat} (v : Int) (h1 : i < es.length) (h2 : f.length = es.length) :
    gone (es.drop i) (f.drop i) v = (if (es.getD i default).src = v then f.getD i 0 else 0) - (if (es.getD i default).dst = v then f.getD i 0 else 0) + gone (es.drop (i + 1)) (f.drop (i + 1)) v := by
  rw [drop_getD es default i h1, drop_getD f 0 i (by omega)]
  rfl
theorem gone_end {es : List Arc} {f : List Int} {i : Nat} (v : Int) (h : es.length ≤ i) : gone (es.drop i) (f.drop i) v = 0 := by
  rw [List.drop_of_length_le h]; rfl
def over : List Arc → List Int → Bool
  | a :: r, x :: q => decide (x < 0) || decide (a.cap < x) || over r q
  | _, _ => false
theorem over_drop {es : List Arc} {f : List Int} {i : Nat} (h1 : i < es.length) (h2 : f.length = es.length) :
    over (es.drop i) (f.drop i) = (decide (f.getD i 0 < 0) || decide ((es.getD i default).cap < f.getD i 0) || over (es.drop (i + 1)) (f.drop (i + 1))) := by
  rw [drop_getD es default i h1, drop_getD f 0 i (by omega)]
  rfl
theorem over_end {es : List Arc} {f : List Int} {i : Nat} (h : es.length ≤ i) : over (es.drop i) (f.drop i) = false := by
  rw [List.drop_of_length_le h]; rfl
/-- A node at which something is lost. -/
def lost (n s t : Int) (es : List Arc) (f : List Int) : Prop := ∃ k, k < n.toNat ∧ (k : Int) ≠ s ∧ (k : Int) ≠ t ∧ gone es f (k : Int) ≠ 0
instance (n s t : Int) (es : List Arc) (f : List Int) : Decidable (lost n s t es f) := by unfold lost; infer_instance
def flowErr (n s t : Int) (es : List Arc) (f : List Int) : Int :=
  if netErr n s t es ≠ 0 then netErr n s t es else if f.length ≠ es.length then 3 else if over es f = true then 7 else if lost n s t es f then 8 else 0
/-- Within the arcs' bounds. -/
structure FIn (es : List Arc) (f : List Int) : Prop where
  len : f.length = es.length
  at_ : ∀ k, k < es.length → 0 ≤ f.getD k 0 ∧ f.getD k 0 ≤ (es.getD k default).cap
theorem over_in : ∀ {es : List Arc} {f : List Int}, f.length = es.length → over es f = false → FIn es f
  | [], f, h, _ => ⟨h, fun k hk => by simp at hk⟩
  | a :: r, [], h, _ => by simp at h
  | a :: r, x :: q, h, ho => by
    simp only [over, Bool.or_eq_false_iff, decide_eq_false_iff_not] at ho
    have hr := over_in (by simpa using h) ho.2
    refine ⟨h, fun k hk => ?_⟩
    cases k with
    | zero => simp only [List.getD_cons_zero]; omega
    | succ k => simp only [List.getD_cons_succ]; exact hr.at_ k (by simpa using hk)
/-- No more than so much is gone. -/
theorem gone_far {n : Int} {es : List Arc} {f : List Int} {v : Int} (h : ∀ a ∈ es, 0 ≤ a.src ∧ a.src < n ∧ 0 ≤ a.dst ∧ a.dst < n) (hv : n ≤ v) : gone es f v = 0 := by
  induction es generalizing f with
  | nil => rfl
  | cons a r ih =>
    cases f with
    | nil => rfl
    | cons x q =>
      have ha := h a List.mem_cons_self
      have := ih (f := q) (fun b hb => h b (List.mem_cons_of_mem _ hb))
      simp only [gone, this]
      rw [if_neg (by omega), if_neg (by omega)]; rfl
end Go.Ab
