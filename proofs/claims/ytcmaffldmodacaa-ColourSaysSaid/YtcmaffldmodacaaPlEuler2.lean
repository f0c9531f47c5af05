/- Of trails that go along each arc once: whether there is one. -/
import Derived.Test.YtcmaffldmodacaaPlEuler
namespace Go.Ab
def cntE (f : Arc → Int) : List Arc → Int → Int
  | [], _ => 0
  | a :: r, v => (if f a = v then 1 else 0) + cntE f r v
theorem cntE_snoc (f : Arc → Int) (a : Arc) (v : Int) : ∀ l : List Arc, cntE f (l ++ [a]) v = cntE f l v + if f a = v then 1 else 0
  | [] => by simp [cntE]
  | b :: r => by
    have := cntE_snoc f a v r
    simp only [List.cons_append, cntE, this]; omega
def bal0 (es : List Arc) (v : Int) : Int := cntE Arc.src es v - cntE Arc.dst es v
theorem bump_fold (f : Arc → Int) (k : Nat) : ∀ (es : List Arc) (L : List Int), (∀ a ∈ es, 0 ≤ f a ∧ (f a).toNat < L.length) → (es.foldl (fun l a => l.set (f a).toNat (l.getD (f a).toNat 0 + 1)) L).getD k 0 = L.getD k 0 + cntE f es k
  | [], L, _ => by simp [cntE]
  | a :: r, L, h => by
    have ha := h a List.mem_cons_self
    rw [List.foldl_cons, bump_fold f k r _ (fun b hb => by rw [List.length_set]; exact h b (List.mem_cons_of_mem _ hb)), cntE]
    by_cases q : k = (f a).toNat
    · rw [q, getD_set_self _ _ _ _ ha.2, if_pos (by omega)]; omega
    · rw [getD_set_ne _ _ _ _ _ (Ne.symm q), if_neg (by omega)]; omega
theorem bump_cnt {f : Arc → Int} {n : Int} {es : List Arc} (h : ∀ a ∈ es, 0 ≤ f a ∧ f a < n) {k : Nat} (hk : (k : Int) < n) : (bump f n es).getD k 0 = cntE f es k := by
  unfold bump
  rw [bump_fold f k es _ (fun a ha => by have := h a ha; rw [List.length_replicate]; omega), getD_lt (List.replicate n.toNat (0 : Int)) 0 k (by rw [List.length_replicate]; omega)]
  simp
theorem degs {n : Int} {es : List Arc} (hA : InR n es) {k : Nat} (hk : (k : Int) < n) : (bump Arc.src n es).getD k 0 = cntE Arc.src es k ∧ (bump Arc.dst n es).getD k 0 = cntE Arc.dst es k :=
  ⟨bump_cnt (fun a ha => by obtain ⟨h1, h2, _, _⟩ := hA a ha; exact ⟨h1, h2⟩) hk, bump_cnt (fun a ha => by obtain ⟨_, _, h3, h4⟩ := hA a ha; exact ⟨h3, h4⟩) hk⟩
structure Begins (n : Int) (es : List Arc) (kd st f : Int) : Prop where
  bl : ∀ v, bal0 es v = (if v = st then 1 else 0) - (if v = f then 1 else 0)
  out : 0 < es.length → ∃ k : Nat, k < es.length ∧ (es.getD k default).src = st
  round : kd = 2 → st = f
  join : ∀ k : Nat, k < es.length → (joinedOf n es).getD (es.getD k default).src.toNat 0 = (joinedOf n es).getD st.toNat 0
end Go.Ab
