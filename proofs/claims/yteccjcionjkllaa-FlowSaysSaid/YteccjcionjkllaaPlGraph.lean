/- Of graphs and nets: the plain laws. -/
import Derived.Test.YteccjcionjkllaaPl1
namespace Go.Ab
/-- Out of a list, if there is no error; else nothing. -/
def okL {α : Type} (e : Int) (xs : List α) : List α := if e = 0 then xs else []
def okI (e x : Int) : Int := if e = 0 then x else 0
theorem okL_ok {α : Type} {e : Int} (xs : List α) (h : e = 0) : okL e xs = xs := by rw [okL, if_pos h]
theorem okI_ok {e : Int} (x : Int) (h : e = 0) : okI e x = x := by rw [okI, if_pos h]
theorem okL_no {α : Type} {e : Int} (xs : List α) (h : e ≠ 0) : okL e xs = [] := by rw [okL, if_neg h]
theorem okI_no {e : Int} (x : Int) (h : e ≠ 0) : okI e x = 0 := by rw [okI, if_neg h]

/-- The first fault among the arcs. -/
def arcsErr (n least : Int) : List Arc → Int
  | [] => 0
  | a :: r => if a.src < 0 ∨ n ≤ a.src ∨ a.dst < 0 ∨ n ≤ a.dst then 4 else if a.cap < least ∨ 10000 < a.cap then 1 else arcsErr n least r
def graphErr (n : Int) (es : List Arc) (least : Int) : Int := if n < 1 ∨ 12 < n then 1 else if 60 < es.length then 2 else arcsErr n least es
def netErr (n s t : Int) (es : List Arc) : Int :=
  if graphErr n es 0 ≠ 0 then graphErr n es 0 else if s < 0 ∨ n ≤ s ∨ t < 0 ∨ n ≤ t then 4 else if s = t then 3 else 0
def ArcOk (n least : Int) (a : Arc) : Prop := 0 ≤ a.src ∧ a.src < n ∧ 0 ≤ a.dst ∧ a.dst < n ∧ least ≤ a.cap ∧ a.cap ≤ 10000
theorem arcsErr_zero {n least : Int} : ∀ {es : List Arc}, arcsErr n least es = 0 → ∀ a ∈ es, ArcOk n least a
  | [], _, a, ha => by cases ha
  | b :: r, h, a, ha => by
    unfold arcsErr at h
    split at h
    · cases h
    · split at h
      · cases h
      · rename_i h1 h2
        rcases List.mem_cons.1 ha with rfl | ha
        · exact ⟨by omega, by omega, by omega, by omega, by omega, by omega⟩
        · exact arcsErr_zero h a ha
structure GOk (n : Int) (es : List Arc) (least : Int) : Prop where
  n1 : 1 ≤ n
  n2 : n ≤ 12
  len : es.length ≤ 60
  arc : ∀ a ∈ es, ArcOk n least a
theorem graphErr_ok {n : Int} {es : List Arc} {least : Int} (h : graphErr n es least = 0) : GOk n es least := by
  unfold graphErr at h
  split at h
  · cases h
  · split at h
    · cases h
    · exact ⟨by omega, by omega, by omega, arcsErr_zero h⟩
theorem GOk.at_ {n : Int} {es : List Arc} {least : Int} (h : GOk n es least) {i : Nat} (hi : i < es.length) : ArcOk n least (es.getD i default) := h.arc _ (getD_mem hi)
structure NOk (n s t : Int) (es : List Arc) : Prop extends GOk n es 0 where
  s0 : 0 ≤ s
  s1 : s < n
  t0 : 0 ≤ t
  t1 : t < n
  ne : s ≠ t
theorem netErr_ok {n s t : Int} {es : List Arc} (h : netErr n s t es = 0) : NOk n s t es := by
  unfold netErr at h
  split at h
  · rename_i h1; exact absurd h h1
  · rename_i h1
    have hg := graphErr_ok (Decidable.not_not.1 h1)
    split at h
    · cases h
    · split at h
      · cases h
      · exact ⟨hg, by omega, by omega, by omega, by omega, by omega⟩
theorem arcsErr_of {n least : Int} : ∀ {es : List Arc}, (∀ a ∈ es, ArcOk n least a) → arcsErr n least es = 0
  | [], _ => rfl
  | b :: r, h => by
    obtain ⟨h1, h2, h3, h4, h5, h6⟩ := h b List.mem_cons_self
    unfold arcsErr
    rw [if_neg (by omega), if_neg (by omega)]
    exact arcsErr_of fun a ha => h a (List.mem_cons_of_mem _ ha)
theorem GOk.err {n : Int} {es : List Arc} {least : Int} (h : GOk n es least) : graphErr n es least = 0 := by
  have h1 := h.n1; have h2 := h.n2; have h3 := h.len
  unfold graphErr
  rw [if_neg (by omega), if_neg (by omega)]
  exact arcsErr_of h.arc
theorem NOk.err {n s t : Int} {es : List Arc} (h : NOk n s t es) : netErr n s t es = 0 := by
  have h1 := h.s0; have h2 := h.s1; have h3 := h.t0; have h4 := h.t1
  unfold netErr
  rw [h.toGOk.err, if_neg (by simp), if_neg (by omega), if_neg h.ne]
theorem arc_ext {a b : Arc} : a = b ↔ a.src = b.src ∧ a.dst = b.dst ∧ a.cap = b.cap := by
  cases a; cases b; simp
end Go.Ab
