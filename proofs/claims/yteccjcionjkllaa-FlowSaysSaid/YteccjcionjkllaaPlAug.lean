/- Of flows that grow along a way: the plain laws. -/
import Derived.Test.YteccjcionjkllaaPlWay
namespace Go.Ab
theorem gone_set {es : List Arc} {f : List Int} {k : Nat} (x v : Int) : k < es.length → f.length = es.length →
    gone es (f.set k x) v = gone es f v + ((if (es.getD k default).src = v then x - f.getD k 0 else 0) - (if (es.getD k default).dst = v then x - f.getD k 0 else 0)) := by
  induction es generalizing f k with
  | nil => intro h; simp at h
  | cons a r ih =>
    intro h hl
    cases f with
    | nil => simp at hl
    | cons y q =>
      cases k with
      | zero =>
        simp only [List.set_cons_zero, List.getD_cons_zero, gone]
        by_cases h1 : a.src = v <;> by_cases h2 : a.dst = v <;> simp only [h1, h2, if_true, if_false] <;> omega
      | succ k =>
        have := ih (f := q) (k := k) (by simpa using h) (by simpa using hl)
        simp only [List.set_cons_succ, List.getD_cons_succ, gone]
        omega
theorem gone_bound {es : List Arc} {f : List Int} (v : Int) (h : FIn es f) (hc : ∀ a ∈ es, a.cap ≤ 10000) : -(10000 * (es.length : Int)) ≤ gone es f v ∧ gone es f v ≤ 10000 * (es.length : Int) := by
  induction es generalizing f with
  | nil => simp [gone]
  | cons a r ih =>
    cases f with
    | nil => have := h.len; simp at this
    | cons x q =>
      have h0 := h.at_ 0 (by simp)
      simp only [List.getD_cons_zero] at h0
      have ha := hc a List.mem_cons_self
      have hr := ih (f := q) ⟨by have := h.len; simpa using this, fun k hk => by have := h.at_ (k + 1) (by simpa using hk); simpa using this⟩ (fun b hb => hc b (List.mem_cons_of_mem _ hb))
      simp only [gone, List.length_cons]
      by_cases h1 : a.src = v <;> by_cases h2 : a.dst = v <;> simp only [h1, h2, if_true, if_false] <;> omega
theorem mem_getD {α : Type} (d : α) {a : α} : ∀ {l : List α}, a ∈ l → ∃ k, k < l.length ∧ l.getD k d = a
  | b :: r, h => by
    rcases List.mem_cons.1 h with rfl | h
    · exact ⟨0, by simp, rfl⟩
    · obtain ⟨k, hk, he⟩ := mem_getD d h
      exact ⟨k + 1, by simpa using hk, by simpa using he⟩
theorem FlOk.bound {n s t : Int} {es : List Arc} {f : List Int} (h : FlOk n s t es f) (v : Int) : -600000 ≤ gone es f v ∧ gone es f v ≤ 600000 := by
  have hb := gone_bound v h.fin (fun a ha => by
    obtain ⟨k, hk, hak⟩ := mem_getD default ha
    rw [← hak]; exact (h.net.at_ hk).2.2.2.2.2)
  have := h.net.len
  omega
def augStep (room : Int) (f : List Int) (p : Int × Bool) : List Int := f.set p.1.toNat (if p.2 = true then f.getD p.1.toNat 0 - room else f.getD p.1.toNat 0 + room)
theorem aug_len (room : Int) : ∀ (l : List (Int × Bool)) (f : List Int), (l.foldl (augStep room) f).length = f.length
  | [], _ => rfl
  | p :: r, f => by simp only [List.foldl_cons]; rw [aug_len room r]; simp [augStep]
theorem aug_get (room : Int) {k : Nat} : ∀ (l : List (Int × Bool)) (f : List Int), (∀ q ∈ l, q.1.toNat ≠ k) → (l.foldl (augStep room) f).getD k 0 = f.getD k 0
  | [], _, _ => rfl
  | p :: r, f, h => by
    simp only [List.foldl_cons]
    rw [aug_get room r _ (fun q hq => h q (List.mem_cons_of_mem _ hq))]
    exact getD_set_ne _ _ _ _ _ (h p List.mem_cons_self)
/-- The arc of a step, by its ends alone. -/
def Ends (es : List Arc) (p : Int × Bool) (u v : Int) : Prop :=
  0 ≤ p.1 ∧ p.1 < es.length ∧ (if p.2 = true then (es.getD p.1.toNat default).dst = u ∧ (es.getD p.1.toNat default).src = v else (es.getD p.1.toNat default).src = u ∧ (es.getD p.1.toNat default).dst = v)
def ChainE (es : List Arc) : Int → List (Int × Bool) → Int → Prop
  | t, [], a => t = a
  | t, p :: r, a => ∃ u, Ends es p u t ∧ ChainE es u r a
theorem ChainB.ends {es : List Arc} {f : List Int} {a : Int} : ∀ {l : List (Int × Bool)} {t : Int}, ChainB es f t l a → ChainE es t l a
  | [], _, h => h
  | p :: r, t, ⟨u, h1, h2⟩ => ⟨u, ⟨h1.1, h1.2.1, by
      have h := h1.2.2
      split at h
      · rename_i hb; rw [if_pos hb]; exact ⟨h.1, h.2.1⟩
      · rename_i hb; rw [if_neg hb]; exact ⟨h.1, h.2.1⟩⟩, ChainB.ends h2⟩
theorem ChainE.within {es : List Arc} {a : Int} : ∀ {l : List (Int × Bool)} {t : Int}, ChainE es t l a → ∀ p ∈ l, 0 ≤ p.1 ∧ p.1 < es.length
  | [], _, _, p, hp => by cases hp
  | q :: r, _, ⟨_, h1, h2⟩, p, hp => by
    rcases List.mem_cons.1 hp with rfl | hp
    · exact ⟨h1.1, h1.2.1⟩
    · exact h2.within p hp
theorem aug_ok {es : List Arc} {room : Int} (h0 : 0 < room) : ∀ (l : List (Int × Bool)) {f : List Int} {t a : Int}, FIn es f → ChainE es t l a → Once l → (∀ p ∈ l, room ≤ room1 es f p) →
    FIn es (l.foldl (augStep room) f) ∧ ∀ v, gone es (l.foldl (augStep room) f) v = gone es f v + ((if a = v then room else 0) - (if t = v then room else 0))
  | [], f, t, a, hf, hch, _, _ => by
    have : t = a := hch
    subst this
    exact ⟨hf, fun v => by simp⟩
  | p :: r, f, t, a, hf, ⟨u, h1, h2⟩, ho, hr => by
    have hk0 := h1.1
    have hk1 := h1.2.1
    have hp := hr p List.mem_cons_self
    have hfk := hf.at_ p.1.toNat (by omega)
    have hlen := hf.len
    have get : ∀ k, (augStep room f p).getD k 0 = if k = p.1.toNat then (if p.2 = true then f.getD p.1.toNat 0 - room else f.getD p.1.toNat 0 + room) else f.getD k 0 := by
      intro k
      unfold augStep
      by_cases hk : k = p.1.toNat
      · subst hk; rw [if_pos rfl, getD_set_self _ _ _ _ (by omega)]
      · rw [if_neg hk, getD_set_ne _ _ _ _ _ (Ne.symm hk)]
    have hf1 : FIn es (augStep room f p) := by
      refine ⟨by simp [augStep, hlen], fun k hk => ?_⟩
      rw [get]
      by_cases hkp : k = p.1.toNat
      · rw [if_pos hkp, hkp]
        unfold room1 at hp
        split at hp
        · rename_i hb; rw [if_pos hb]; omega
        · rename_i hb; rw [if_neg hb]; omega
      · rw [if_neg hkp]; exact hf.at_ k hk
    have hr1 : ∀ q ∈ r, room ≤ room1 es (augStep room f p) q := by
      intro q hq
      have h3 := hr q (List.mem_cons_of_mem _ hq)
      have hne := ho.1 q hq
      have hq0 := (h2.within q hq).1
      have hq : (augStep room f p).getD q.1.toNat 0 = f.getD q.1.toNat 0 := by rw [get]; exact if_neg (by omega)
      unfold room1 at h3 ⊢
      rw [hq]
      exact h3
    obtain ⟨g1, g2⟩ := aug_ok h0 r hf1 h2 ho.2 hr1
    refine ⟨g1, fun v => ?_⟩
    simp only [List.foldl_cons]
    rw [g2 v]
    have e1 : gone es (augStep room f p) v = gone es f v + ((if u = v then room else 0) - (if t = v then room else 0)) := by
      unfold augStep
      rw [gone_set _ v (by omega) hlen]
      have he := h1.2.2
      cases hb : p.2
      · rw [hb] at he
        simp only [Bool.false_eq_true, if_false] at he ⊢
        rw [he.1, he.2]
        by_cases e1 : u = v <;> by_cases e2 : t = v <;> simp only [e1, e2, if_true, if_false] <;> omega
      · rw [hb] at he
        simp only [if_true] at he ⊢
        rw [he.1, he.2]
        by_cases e1 : u = v <;> by_cases e2 : t = v <;> simp only [e1, e2, if_true, if_false] <;> omega
    rw [e1]
    by_cases e1 : u = v <;> by_cases e2 : t = v <;> by_cases e3 : a = v <;> simp only [e1, e2, e3, if_true, if_false] <;> omega
theorem Once.at_ : ∀ {l : List (Int × Bool)} {j : Nat} {d : Int × Bool}, Once l → j < l.length → ∀ q ∈ l.take j, q.1 ≠ (l.getD j d).1
  | [], _, _, _, hj, _, _ => by simp at hj
  | p :: r, 0, _, _, _, q, hq => by simp at hq
  | p :: r, j + 1, d, h, hj, q, hq => by
    simp only [List.take_succ_cons, List.mem_cons, List.getD_cons_succ] at hq ⊢
    have hj' : j < r.length := by simpa using hj
    rcases hq with rfl | hq
    · exact fun e => h.1 _ (getD_mem (d := d) hj') e.symm
    · exact Once.at_ h.2 hj' q hq
/-- A flow along a way is a flow of a greater Value. -/
theorem FlOk.along {n s t : Int} {es : List Arc} {f : List Int} {l : List (Int × Bool)} {room : Int} (h : FlOk n s t es f) (h0 : 0 < room) (hch : ChainB es f t l s) (ho : Once l) (hr : ∀ p ∈ l, room ≤ room1 es f p) :
    FlOk n s t es (l.foldl (augStep room) f) ∧ gone es (l.foldl (augStep room) f) s = gone es f s + room := by
  obtain ⟨h1, h2⟩ := aug_ok h0 l h.fin hch.ends ho hr
  refine ⟨⟨h.net, h1, fun k hs ht => ?_⟩, ?_⟩
  · rw [h2, if_neg (fun e => hs e.symm), if_neg (fun e => ht e.symm), h.kept k hs ht]; rfl
  · rw [h2, if_pos rfl, if_neg (fun e => h.net.ne e.symm)]; omega
theorem gone_zeros (v : Int) : ∀ es : List Arc, gone es (List.replicate es.length 0) v = 0
  | [] => rfl
  | a :: r => by
    simp only [List.length_cons, List.replicate_succ, gone, gone_zeros v r]
    split <;> split <;> rfl
theorem over_zeros : ∀ {es : List Arc}, (∀ a ∈ es, 0 ≤ a.cap) → over es (List.replicate es.length 0) = false
  | [], _ => rfl
  | a :: r, h => by
    have := h a List.mem_cons_self
    simp only [List.length_cons, List.replicate_succ, over, over_zeros (fun b hb => h b (List.mem_cons_of_mem _ hb)), Bool.or_false, Bool.or_eq_false_iff, decide_eq_false_iff_not]
    omega
theorem flowErr_zeros {n s t : Int} {es : List Arc} (hE : netErr n s t es = 0) : flowErr n s t es (List.replicate es.length 0) = 0 := by
  have hok := netErr_ok hE
  unfold flowErr
  rw [if_neg (by omega), if_neg (by simp), if_neg, if_neg]
  · rintro ⟨k, _, _, _, h⟩
    exact h (gone_zeros _ _)
  · rw [over_zeros (fun a ha => by obtain ⟨k, hk, hak⟩ := mem_getD default ha; rw [← hak]; exact (hok.at_ hk).2.2.2.2.1)]
    decide
/-- The greatest flow, or nothing. -/
def MostOk (n s t : Int) (es : List Arc) (e : Int) (g : List Int) (v : Int) : Prop :=
  (e ≠ 0 ∧ g = [] ∧ v = 0) ∨ (e = 0 ∧ FlOk n s t es g ∧ gone es g s = v ∧ v = (parted n s t es).1)
theorem most_right {n s t e v : Int} {es : List Arc} {g : List Int} (h : MostOk n s t es e g v) : (e ≠ 0 ∧ g = [] ∧ v = 0) ∨ (e = 0 ∧ flowErr n s t es g = 0 ∧ gone es g s = v ∧ v = (parted n s t es).1) :=
  h.imp id fun ⟨h1, h2, h3, h4⟩ => ⟨h1, flowErr_of h2 h2.net.err, h3, h4⟩
end Go.Ab
