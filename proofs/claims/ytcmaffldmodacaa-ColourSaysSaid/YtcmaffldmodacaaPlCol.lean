/- Of arcs' colours: what stands at each node, arc by arc: the plain laws. -/
import Derived.Test.YtcmaffldmodacaaPlKoe
namespace Go.Ab
def colsAt (es : List Arc) (C : List Int) : Nat → Int → List Int
  | 0, _ => []
  | k + 1, v => if (es.getD k default).src = v ∨ (es.getD k default).dst = v then colsAt es C k v ++ [C.getD k 0] else colsAt es C k v
theorem colsAt_len (es : List Arc) (C : List Int) (v : Int) : ∀ k, (colsAt es C k v).length ≤ k
  | 0 => Nat.le_refl _
  | k + 1 => by
    have := colsAt_len es C v k
    rw [colsAt]; split
    · rw [List.length_append, List.length_singleton]; omega
    · omega
theorem mem_colsAt {es : List Arc} {C : List Int} {v x : Int} : ∀ {k : Nat}, x ∈ colsAt es C k v → ∃ j : Nat, j < k ∧ Inc es j v ∧ C.getD j 0 = x
  | 0, h => by cases h
  | k + 1, h => by
    rw [colsAt] at h
    split at h
    · rename_i hi
      rcases List.mem_append.1 h with q | q
      · obtain ⟨j, j1, j2, j3⟩ := mem_colsAt q; exact ⟨j, by omega, j2, j3⟩
      · exact ⟨k, by omega, hi, (List.mem_singleton.1 q).symm⟩
    · obtain ⟨j, j1, j2, j3⟩ := mem_colsAt h; exact ⟨j, by omega, j2, j3⟩
theorem take_cntE {f : Arc → Int} {es : List Arc} {v : Int} {k : Nat} (hk : k < es.length) : cntE f (es.take (k + 1)) v = cntE f (es.take k) v + if f (es.getD k default) = v then 1 else 0 := by
  rw [take_getD es default k hk, cntE_snoc]
theorem colsAt_dg {es : List Arc} {C : List Int} {v : Int} : ∀ {k : Nat}, k ≤ es.length → (∀ j, j < es.length → (es.getD j default).src ≠ (es.getD j default).dst) → ((colsAt es C k v).length : Int) = cntE Arc.src (es.take k) v + cntE Arc.dst (es.take k) v
  | 0, _, _ => by simp [colsAt, cntE]
  | k + 1, hk, hn => by
    have ih := colsAt_dg (C := C) (v := v) (k := k) (by omega) hn
    have hne := hn k (by omega)
    rw [take_cntE (by omega), take_cntE (by omega), colsAt]
    split
    · rename_i hi
      rw [List.length_append, List.length_singleton]
      rcases hi with q | q
      · rw [if_pos q, if_neg (fun e => hne (q.trans e.symm))]; omega
      · rw [if_pos q, if_neg (fun e => hne (e.trans q.symm))]; omega
    · rename_i hi
      rw [if_neg (fun e => hi (.inl e)), if_neg (fun e => hi (.inr e))]; omega
structure RowsC (es : List Arc) (C : List Int) (k : Nat) (L : List (List Int)) : Prop where
  len : L.length = 12
  at_ : ∀ v : Nat, v < 12 → L.getD v [] = colsAt es C k v
theorem RowsC.start (es : List Arc) (C : List Int) : RowsC es C 0 (List.replicate 12 []) := ⟨List.length_replicate, fun v hv => by
  rw [List.getD_eq_getElem?_getD, List.getElem?_replicate, if_pos hv]; rfl⟩
theorem RowsC.row {es : List Arc} {C : List Int} {k : Nat} {L : List (List Int)} (h : RowsC es C k L) {v : Int} (v0 : 0 ≤ v) (v1 : v < 12) : (L.getD v.toNat []).length ≤ k := by
  rw [h.at_ v.toNat (by omega)]; exact colsAt_len _ _ _ _
theorem RowsC.step {es : List Arc} {C : List Int} {k : Nat} {L : List (List Int)} (h : RowsC es C k L) (s0 : 0 ≤ (es.getD k default).src) (s1 : (es.getD k default).src < 12) (d0 : 0 ≤ (es.getD k default).dst) (d1 : (es.getD k default).dst < 12) (hne : (es.getD k default).src ≠ (es.getD k default).dst) {L' : List (List Int)}
    (hL : L' = (L.set (es.getD k default).src.toNat (L.getD (es.getD k default).src.toNat [] ++ [C.getD k 0])).set (es.getD k default).dst.toNat (L.getD (es.getD k default).dst.toNat [] ++ [C.getD k 0])) : RowsC es C (k + 1) L' := by
  have hl := h.len
  subst hL
  refine ⟨by rw [List.length_set, List.length_set]; exact hl, fun v hv => ?_⟩
  have hv' := h.at_ v hv
  rw [colsAt]
  by_cases e1 : (es.getD k default).dst = (v : Int)
  · have e2 : (es.getD k default).dst.toNat = v := by omega
    rw [if_pos (.inr e1), e2, getD_set_self _ _ _ _ (by rw [List.length_set]; omega), hv']
  · rw [getD_set_ne _ _ _ _ _ (by omega)]
    by_cases e2 : (es.getD k default).src = (v : Int)
    · have e3 : (es.getD k default).src.toNat = v := by omega
      rw [if_pos (.inl e2), e3, getD_set_self _ _ _ _ (by omega), hv']
    · rw [if_neg (by rintro (q | q); exact e2 q; exact e1 q), getD_set_ne _ _ _ _ _ (by omega), hv']
theorem ColOk.new {n q : Int} {es : List Arc} {C : List Int} (h : ColOk n es q C) {k : Nat} {L : List (List Int)} (hk : k < es.length) (hR : RowsC es C k L) (h12 : n ≤ 12) {v : Int} (hv : v = (es.getD k default).src ∨ v = (es.getD k default).dst) : rk (L.getD v.toNat []) (C.getD k 0) < 0 := by
  obtain ⟨L0, hA, _⟩ := h
  have hi : Inc es (k : Int) v := Inc_k hv
  obtain ⟨v0, v1⟩ := hA.inn (j := (k : Int)) (by omega) (by omega) hi
  refine Int.not_le.1 fun h0 => ?_
  have hm := mem_rk.2 h0
  rw [hR.at_ v.toNat (by omega), show ((v.toNat : Nat) : Int) = v by omega] at hm
  obtain ⟨j, j1, j2, j3⟩ := mem_colsAt hm
  obtain ⟨_, _, p3⟩ := hA.of (k : Int) (by omega) (by omega)
  obtain ⟨_, _, g3⟩ := hA.of (j : Int) (by omega) (by omega)
  have e1 := p3 v hi
  have e2 := g3 v j2
  have e3 : colA C (k : Int) = colA C (j : Int) := by show C.getD (k : Int).toNat 0 = C.getD (j : Int).toNat 0; rw [Int.toNat_natCast, Int.toNat_natCast, j3]
  rw [e3, e2] at e1
  omega
theorem ColOk.rng {n q : Int} {es : List Arc} {C : List Int} (h : ColOk n es q C) {k : Nat} (hk : k < es.length) : 0 ≤ C.getD k 0 ∧ C.getD k 0 < q := by
  obtain ⟨L0, hA, _⟩ := h
  obtain ⟨a, b, _⟩ := hA.of (k : Int) (by omega) (by omega)
  exact ⟨a, b⟩
theorem ColOk.len {n q : Int} {es : List Arc} {C : List Int} (h : ColOk n es q C) : C.length = es.length := by
  obtain ⟨L0, hA, _⟩ := h
  exact hA.len
theorem TwoSd.ne {es : List Arc} {S : List Int} (h : TwoSd es S) {k : Nat} (hk : k < es.length) : (es.getD k default).src ≠ (es.getD k default).dst := fun e => by
  have h1 := h (k : Int) (by omega) (by omega)
  have h2 : srcA es (k : Int) = dstA es (k : Int) := e
  rw [h2] at h1
  omega
theorem ColOk.top {n q : Int} {es : List Arc} {C S : List Int} (h : ColOk n es q C) (hT : TwoSd es S) (h0 : 0 ≤ n) (h12 : n ≤ 12) {L : List (List Int)} (hR : RowsC es C es.length L) {m : Int} (hm : MaxOf 12 (fun v => ((L.getD v.toNat []).length : Int)) m) : q = m := by
  obtain ⟨L0, hA, hM⟩ := h
  have hd : ∀ v : Nat, v < 12 → ((L.getD v []).length : Int) = dg es v := fun v hv => by
    rw [hR.at_ v hv, colsAt_dg (Nat.le_refl _) (fun j hj => hT.ne hj), List.take_of_length_le (Nat.le_refl _)]; rfl
  refine hM.uniq (k := 12) (p := m) ⟨hm.q0, fun v hv => ?_, ?_⟩ (by omega) fun v hv => ?_
  · have := hm.le v hv
    simp only [Int.toNat_natCast] at this
    rw [← hd v hv]; exact this
  · rcases hm.is_ with q | ⟨v, v1, v2⟩
    · exact .inl q
    · simp only [Int.toNat_natCast] at v2
      exact .inr ⟨v, v1, by rw [← hd v v1]; exact v2⟩
  · have z : ∀ (f : Arc → Int) (l : List Arc), (∀ a ∈ l, f a ≠ (v : Int)) → cntE f l v = 0 := fun f l => by
      induction l with
      | nil => intro _; rfl
      | cons a r ih => intro hl; rw [cntE, if_neg (hl a List.mem_cons_self), ih (fun b hb => hl b (List.mem_cons_of_mem _ hb))]; rfl
    have h1 := z Arc.src es (fun a ha => by have := hA.inr a ha; omega)
    have h2 := z Arc.dst es (fun a ha => by have := hA.inr a ha; omega)
    unfold dg; omega
end Go.Ab
