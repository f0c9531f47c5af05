/- Of what joins all, at the least: what is joined, and by which bound: the plain laws. -/
import Derived.Test.YtakfbagokponeaaPlSides
import Derived.Test.YtakfbagokponeaaPlA
import Derived.Test.YtakfbagokponeaaPlA
namespace Go.Ab
inductive Lk (A : List Arc) : Int → Int → Prop
  | refl (u : Int) : Lk A u u
  | symm {u v : Int} : Lk A u v → Lk A v u
  | trans {u v w : Int} : Lk A u v → Lk A v w → Lk A u w
  | arc {a : Arc} : a ∈ A → Lk A a.src a.dst
theorem Lk.mono {A B : List Arc} (h : ∀ a ∈ A, a ∈ B) {u v : Int} (hl : Lk A u v) : Lk B u v := by
  induction hl with
  | refl u => exact .refl u
  | symm _ ih => exact .symm ih
  | trans _ _ h1 h2 => exact .trans h1 h2
  | arc ha => exact .arc (h _ ha)
theorem lk_nil {u v : Int} (h : Lk [] u v) : u = v := by
  induction h with
  | refl u => rfl
  | symm _ ih => exact ih.symm
  | trans _ _ h1 h2 => exact h1.trans h2
  | arc ha => cases ha
theorem lk_wk {A : List Arc} {u v : Int} (h : Lk A u v) : ∃ k, wk (bothA A) k u v = true := by
  induction h with
  | refl u => exact ⟨0, wk_zero.2 rfl⟩
  | symm _ ih => obtain ⟨k, hk⟩ := ih; exact ⟨k, wk_rev hk⟩
  | trans _ _ h1 h2 => obtain ⟨i, hi⟩ := h1; obtain ⟨j, hj⟩ := h2; exact ⟨i + j, wk_cat hj hi⟩
  | arc ha => exact ⟨1, wk_one (mem_both.2 (.inl ha))⟩
theorem wk_lk {A : List Arc} : ∀ {k : Nat} {u v : Int}, wk (bothA A) k u v = true → Lk A u v
  | 0, u, v, h => by rw [wk_zero] at h; subst h; exact .refl _
  | k + 1, u, v, h => by
    obtain ⟨a, ha, rfl, h2⟩ := wk_succ.1 h
    have ih := wk_lk h2
    rcases mem_both.1 ha with hb | ⟨b, hb, rfl⟩
    · exact .trans (.arc hb) ih
    · exact .trans (.symm (.arc hb)) ih
theorem lk_root {n : Int} {A : List Arc} (h12 : n ≤ 12) (hA : InR n A) {u v : Nat} (hu : (u : Int) < n) (hv : (v : Int) < n) : (joinedOf n A).getD u 0 = (joinedOf n A).getD v 0 ↔ Lk A u v := by
  constructor
  · intro h
    obtain ⟨_, _, ⟨k1, h1⟩, _⟩ := root_at h12 hA hu
    obtain ⟨_, _, ⟨k2, h2⟩, _⟩ := root_at h12 hA hv
    have e : rootOf n A u = rootOf n A v := h
    rw [← e] at h2
    exact .trans (.symm (wk_lk h1)) (wk_lk h2)
  · intro h
    obtain ⟨k, hk⟩ := lk_wk h
    exact root_same h12 hA hu hv hk
theorem lk_snoc {A : List Arc} {a : Arc} {u v : Int} : Lk (A ++ [a]) u v ↔ Lk A u v ∨ (Lk A u a.src ∧ Lk A a.dst v) ∨ (Lk A u a.dst ∧ Lk A a.src v) := by
  constructor
  · intro h
    induction h with
    | refl u => exact .inl (.refl u)
    | symm _ ih =>
      rcases ih with q | ⟨q1, q2⟩ | ⟨q1, q2⟩
      · exact .inl q.symm
      · exact .inr (.inr ⟨q2.symm, q1.symm⟩)
      · exact .inr (.inl ⟨q2.symm, q1.symm⟩)
    | trans _ _ h1 h2 =>
      rcases h1 with q | ⟨q1, q2⟩ | ⟨q1, q2⟩ <;> rcases h2 with r | ⟨r1, r2⟩ | ⟨r1, r2⟩
      · exact .inl (q.trans r)
      · exact .inr (.inl ⟨q.trans r1, r2⟩)
      · exact .inr (.inr ⟨q.trans r1, r2⟩)
      · exact .inr (.inl ⟨q1, q2.trans r⟩)
      · exact .inr (.inl ⟨q1, r2⟩)
      · exact .inl (q1.trans r2)
      · exact .inr (.inr ⟨q1, q2.trans r⟩)
      · exact .inl (q1.trans r2)
      · exact .inr (.inr ⟨q1, r2⟩)
    | arc hb =>
      rcases List.mem_append.1 hb with q | q
      · exact .inl (.arc q)
      · rw [List.mem_singleton] at q
        subst q
        exact .inr (.inl ⟨.refl _, .refl _⟩)
  · have hm : ∀ b ∈ A, b ∈ A ++ [a] := fun b hb => List.mem_append_left _ hb
    have ha : Lk (A ++ [a]) a.src a.dst := .arc (List.mem_append_right _ (List.mem_singleton.2 rfl))
    rintro (h | ⟨h1, h2⟩ | ⟨h1, h2⟩)
    · exact h.mono hm
    · exact ((h1.mono hm).trans ha).trans (h2.mono hm)
    · exact ((h1.mono hm).trans ha.symm).trans (h2.mono hm)
structure Prt (n : Int) (A : List Arc) (P : List Int) : Prop where
  len : P.length = n.toNat
  lab : ∀ u v : Nat, u < n.toNat → v < n.toNat → (P.getD u 0 = P.getD v 0 ↔ Lk A u v)
theorem Prt.start {n : Int} {P : List Int} (hl : P.length = n.toNat) (h : ∀ v, v < n.toNat → P.getD v 0 = v) : Prt n [] P :=
  ⟨hl, fun u v hu hv => by
    rw [h u hu, h v hv]
    constructor
    · intro q; rw [q]; exact .refl _
    · exact lk_nil⟩
def toQ (p q : Int) (P : List Int) : List Int := P.map fun z => if z = p then q else z
theorem toQ_at {p q : Int} {P : List Int} {v : Nat} (hv : v < P.length) : (toQ p q P).getD v 0 = if P.getD v 0 = p then q else P.getD v 0 := by
  unfold toQ
  rw [getD_lt _ _ _ (by rw [List.length_map]; exact hv), getD_lt P 0 v hv, List.getElem_map]
theorem Prt.skip {n : Int} {A : List Arc} {P : List Int} {a : Arc} (h : Prt n A P) (h0 : 0 ≤ a.src) (h1 : a.src < n) (h2 : 0 ≤ a.dst) (h3 : a.dst < n) (he : P.getD a.src.toNat 0 = P.getD a.dst.toNat 0) : Prt n (A ++ [a]) P :=
  ⟨h.len, fun u v hu hv => by
    have hl := (h.lab _ _ (by omega) (by omega)).1 he
    rw [Int.toNat_of_nonneg h0, Int.toNat_of_nonneg h2] at hl
    rw [h.lab u v hu hv, lk_snoc]
    constructor
    · exact .inl
    · rintro (q | ⟨q1, q2⟩ | ⟨q1, q2⟩)
      · exact q
      · exact (q1.trans hl).trans q2
      · exact (q1.trans hl.symm).trans q2⟩
theorem Prt.join {n : Int} {A : List Arc} {P : List Int} {a : Arc} (h : Prt n A P) (h0 : 0 ≤ a.src) (h1 : a.src < n) (h2 : 0 ≤ a.dst) (h3 : a.dst < n) : Prt n (A ++ [a]) (toQ (P.getD a.src.toNat 0) (P.getD a.dst.toNat 0) P) :=
  ⟨by unfold toQ; rw [List.length_map]; exact h.len, fun u v hu hv => by
    have e1 : ((a.src.toNat : Nat) : Int) = a.src := Int.toNat_of_nonneg h0
    have e2 : ((a.dst.toNat : Nat) : Int) = a.dst := Int.toNat_of_nonneg h2
    have hs : ∀ w : Nat, w < n.toNat → (P.getD w 0 = P.getD a.src.toNat 0 ↔ Lk A w a.src) := fun w hw => by have := h.lab w a.src.toNat hw (by omega); rwa [e1] at this
    have hd : ∀ w : Nat, w < n.toNat → (P.getD w 0 = P.getD a.dst.toNat 0 ↔ Lk A w a.dst) := fun w hw => by have := h.lab w a.dst.toNat hw (by omega); rwa [e2] at this
    rw [toQ_at (by rw [h.len]; exact hu), toQ_at (by rw [h.len]; exact hv), lk_snoc]
    constructor
    · intro q
      split at q <;> split at q
      · rename_i q1 q2
        exact .inl ((h.lab u v hu hv).1 (q1.trans q2.symm))
      · rename_i q1 q2
        exact .inr (.inl ⟨(hs u hu).1 q1, ((hd v hv).1 q.symm).symm⟩)
      · rename_i q1 q2
        exact .inr (.inr ⟨(hd u hu).1 q, ((hs v hv).1 q2).symm⟩)
      · exact .inl ((h.lab u v hu hv).1 q)
    · rintro (q | ⟨q1, q2⟩ | ⟨q1, q2⟩)
      · rw [(h.lab u v hu hv).2 q]
      · have r1 := (hs u hu).2 q1
        have r2 := (hd v hv).2 q2.symm
        rw [if_pos r1, r2]
        split <;> first | rfl | assumption
      · have r1 := (hd u hu).2 q1
        have r2 := (hs v hv).2 q2.symm
        rw [if_pos r2, r1]
        split <;> first | rfl | assumption⟩
inductive Wl (E : Nat → Nat → Prop) (m : Nat) : Nat → Nat → Prop
  | base {i k : Nat} : E i k → Wl E m i k
  | step {i j k : Nat} : Wl E m i j → j < m → E j k → Wl E m i k
end Go.Ab
namespace Go.Ab
end Go.Ab
