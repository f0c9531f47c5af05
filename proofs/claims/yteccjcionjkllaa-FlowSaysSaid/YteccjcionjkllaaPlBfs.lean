/- Of a search from a node: the plain laws. -/
import Derived.Test.YteccjcionjkllaaPlParts
import Derived.Test.YteccjcionjkllaaPlWay
namespace Go.Ab
structure Bfs2 (n s : Int) (es : List Arc) (fr by_ todo : List Int) : Prop where
  len1 : fr.length = n.toNat
  len2 : by_.length = n.toNat
  src : fr.getD s.toNat 0 = 0
  at_ : ∀ v : Nat, v < n.toNat → fr.getD v 0 = -1 ∨ (0 ≤ fr.getD v 0 ∧ wk es (fr.getD v 0).toNat s v = true ∧ (fr.getD v 0 = 0 → (v : Int) = s) ∧
    (0 < fr.getD v 0 → 0 ≤ by_.getD v 0 ∧ by_.getD v 0 < es.length ∧ (es.getD (by_.getD v 0).toNat default).dst = v ∧ fr.getD (es.getD (by_.getD v 0).toNat default).src.toNat 0 = fr.getD v 0 - 1))
  queue : ∀ u ∈ todo, 0 ≤ u ∧ u < n ∧ 0 ≤ fr.getD u.toNat 0
  sorted : todo.Pairwise (fun a b => fr.getD a.toNat 0 ≤ fr.getD b.toNat 0)
  front : 0 < todo.length → ∀ v : Nat, v < n.toNat → fr.getD v 0 ≤ fr.getD (todo.getD 0 0).toNat 0 + 1
  closed : ∀ v : Nat, v < n.toNat → 0 ≤ fr.getD v 0 → (v : Int) ∉ todo → ∀ a ∈ es, a.src = v → 0 ≤ fr.getD a.dst.toNat 0 ∧ fr.getD a.dst.toNat 0 ≤ fr.getD v 0 + 1
theorem Bfs2.in_ {n s : Int} {es : List Arc} {fr by_ todo : List Int} (h : Bfs2 n s es fr by_ todo) {v : Nat} (hv : v < n.toNat) : -1 ≤ fr.getD v 0 := by
  rcases h.at_ v hv with h | h <;> omega
/-- What is seen of an arc that is looked at. -/
structure Seen (es : List Arc) (fr : List Int) (at_ : Int) (i : Nat) : Prop where
  arcs : ∀ j, j < i → (es.getD j default).src = at_ → 0 ≤ fr.getD (es.getD j default).dst.toNat 0 ∧ fr.getD (es.getD j default).dst.toNat 0 ≤ fr.getD at_.toNat 0 + 1
theorem Bfs2.visit {n s : Int} {es : List Arc} {fr by_ todo : List Int} (h : Bfs2 n s es fr by_ todo) (hA : InR n es) {i : Nat} (hi : i < es.length) (hne : 0 < todo.length) (hsrc : (es.getD i default).src = todo.getD 0 0) (hno : fr.getD (es.getD i default).dst.toNat 0 < 0) (hseen : Seen es fr (todo.getD 0 0) i) :
    Bfs2 n s es (fr.set (es.getD i default).dst.toNat (fr.getD (todo.getD 0 0).toNat 0 + 1)) (by_.set (es.getD i default).dst.toNat i) (todo ++ [(es.getD i default).dst]) ∧
      Seen es (fr.set (es.getD i default).dst.toNat (fr.getD (todo.getD 0 0).toNat 0 + 1)) (todo.getD 0 0) (i + 1) := by
  obtain ⟨q1, q2, q3, q4⟩ := hA _ (getD_mem (d := default) hi)
  have hmem := getD_mem (d := default) hi
  have hhead : todo.getD 0 0 ∈ todo := getD_mem hne
  obtain ⟨u0, u1, u2⟩ := h.queue _ hhead
  have hfront := h.front hne
  generalize hat : todo.getD 0 0 = u at *
  generalize ha : es.getD i default = a at *
  have ed : ((a.dst.toNat : Nat) : Int) = a.dst := Int.toNat_of_nonneg q3
  have eu : ((u.toNat : Nat) : Int) = u := Int.toNat_of_nonneg u0
  have hd : a.dst.toNat < n.toNat := by omega
  have hune : u.toNat ≠ a.dst.toNat := by intro e; rw [e] at u2; omega
  have hf : ∀ v, (fr.set a.dst.toNat (fr.getD u.toNat 0 + 1)).getD v 0 = if v = a.dst.toNat then fr.getD u.toNat 0 + 1 else fr.getD v 0 := by
    intro v
    by_cases hv : v = a.dst.toNat
    · subst hv; rw [getD_set_self _ _ _ _ (by rw [h.len1]; exact hd), if_pos rfl]
    · rw [getD_set_ne _ _ _ _ _ (Ne.symm hv), if_neg hv]
  have hb : ∀ v, v ≠ a.dst.toNat → (by_.set a.dst.toNat (i : Int)).getD v 0 = by_.getD v 0 := fun v hv => getD_set_ne _ _ _ _ _ (Ne.symm hv)
  have hbd : (by_.set a.dst.toNat (i : Int)).getD a.dst.toNat 0 = i := getD_set_self _ _ _ _ (by rw [h.len2]; exact hd)
  have hvis : ∀ v, 0 ≤ fr.getD v 0 → v ≠ a.dst.toNat := by intro v hv e; rw [e] at hv; omega
  have hwu := (h.at_ u.toNat (by omega)).resolve_left (by omega)
  have hsx : s.toNat ≠ a.dst.toNat := hvis _ (by rw [h.src]; exact Int.le_refl _)
  refine ⟨⟨by rw [List.length_set]; exact h.len1, by rw [List.length_set]; exact h.len2, by rw [hf, if_neg hsx]; exact h.src, fun v hv => ?_, fun x hx => ?_, ?_, fun _ v hv => ?_, fun v hv hv0 hnt b hbm hbs => ?_⟩, ⟨fun j hj hs => ?_⟩⟩
  · by_cases hvd : v = a.dst.toNat
    · subst hvd
      rw [hf, if_pos rfl, hbd]
      refine .inr ⟨by omega, ?_, fun e => by omega, fun _ => ⟨by omega, by omega, ?_⟩⟩
      · rw [show (fr.getD u.toNat 0 + 1).toNat = (fr.getD u.toNat 0).toNat + 1 by omega, ed]
        have := hwu.2.1
        rw [eu] at this
        exact wk_cat (by rw [← hsrc]; exact wk_one hmem) this
      · rw [show ((i : Nat) : Int).toNat = i by omega, ha, hsrc, hf, if_neg hune]
        exact ⟨ed.symm, by omega⟩
    · rw [hf, if_neg hvd, hb v hvd]
      rcases h.at_ v hv with h1 | ⟨h1, h2, h3, h4⟩
      · exact .inl h1
      · refine .inr ⟨h1, h2, h3, fun hp => ?_⟩
        obtain ⟨g1, g2, g3, g4⟩ := h4 hp
        refine ⟨g1, g2, g3, ?_⟩
        rw [hf, if_neg (hvis _ (by rw [g4]; omega))]
        exact g4
  · rcases List.mem_append.1 hx with hx | hx
    · obtain ⟨x0, x1, x2⟩ := h.queue x hx
      exact ⟨x0, x1, by rw [hf, if_neg (hvis _ x2)]; exact x2⟩
    · rw [List.mem_singleton] at hx
      subst hx
      exact ⟨q3, q4, by rw [hf, if_pos rfl]; omega⟩
  · rw [List.pairwise_append]
    refine ⟨h.sorted.imp_of_mem fun {x y} hx hy hxy => ?_, List.pairwise_singleton _ _, fun x hx y hy => ?_⟩
    · rw [hf, hf, if_neg (hvis _ (h.queue x hx).2.2), if_neg (hvis _ (h.queue y hy).2.2)]; exact hxy
    · rw [List.mem_singleton] at hy
      subst hy
      obtain ⟨x0, x1, x2⟩ := h.queue x hx
      rw [hf, hf, if_pos rfl, if_neg (hvis _ x2)]
      exact hfront x.toNat (by omega)
  · have e : (todo ++ [a.dst]).getD 0 0 = u := by
      rw [List.getD_eq_getElem?_getD, List.getElem?_append_left hne, ← List.getD_eq_getElem?_getD]; exact hat
    rw [e, hf, hf, if_neg hune]
    split
    · exact Int.le_refl _
    · exact hfront v hv
  · have hvd : v ≠ a.dst.toNat := by
      rintro rfl
      exact hnt (List.mem_append_right _ (by rw [ed]; exact List.mem_singleton.2 rfl))
    rw [hf, if_neg hvd] at hv0
    obtain ⟨c1, c2⟩ := h.closed v hv hv0 (fun hm => hnt (List.mem_append_left _ hm)) b hbm hbs
    rw [hf, hf, if_neg hvd, if_neg (hvis _ c1)]
    exact ⟨c1, c2⟩
  · rw [hf, hf, if_neg hune]
    split
    · omega
    · rename_i hjd
      rcases Nat.lt_succ_iff_lt_or_eq.1 hj with hj | hj
      · exact hseen.arcs j hj hs
      · subst hj; rw [ha] at hjd; exact absurd rfl hjd
theorem Bfs2.pass {n s : Int} {es : List Arc} {fr by_ todo : List Int} (h : Bfs2 n s es fr by_ todo) {i : Nat} (hi : i < es.length) (hA : InR n es) (hne : 0 < todo.length) (hc : ¬ ((es.getD i default).src = todo.getD 0 0 ∧ fr.getD (es.getD i default).dst.toNat 0 < 0)) (hseen : Seen es fr (todo.getD 0 0) i) : Seen es fr (todo.getD 0 0) (i + 1) := ⟨fun j hj hs => by
  rcases Nat.lt_succ_iff_lt_or_eq.1 hj with hj | hj
  · exact hseen.arcs j hj hs
  · subst hj
    obtain ⟨q1, q2, q3, q4⟩ := hA _ (getD_mem (d := default) hi)
    exact ⟨by omega, h.front hne _ (by omega)⟩⟩
theorem Bfs2.pop {n s : Int} {es : List Arc} {fr by_ todo : List Int} (h : Bfs2 n s es fr by_ todo) {i : Nat} (hi : es.length ≤ i) (hne : 0 < todo.length) (hseen : Seen es fr (todo.getD 0 0) i) : Bfs2 n s es fr by_ (todo.drop 1) := by
  obtain ⟨u, r, rfl⟩ : ∃ u r, todo = u :: r := by
    cases todo with
    | nil => simp at hne
    | cons u r => exact ⟨u, r, rfl⟩
  simp only [List.drop_succ_cons, List.drop_zero, List.getD_cons_zero] at hseen ⊢
  have hs := h.sorted
  rw [List.pairwise_cons] at hs
  refine ⟨h.len1, h.len2, h.src, h.at_, fun x hx => h.queue x (List.mem_cons_of_mem _ hx), hs.2, fun h0 v hv => ?_, fun v hv hv0 hnt a ha has => ?_⟩
  · have h1 := h.front (by simp) v hv
    rw [List.getD_cons_zero] at h1
    have h2 := hs.1 (r.getD 0 0) (getD_mem h0)
    omega
  · by_cases hvu : (v : Int) = u
    · obtain ⟨j, hj, rfl⟩ := List.getElem_of_mem ha
      have h1 := hseen.arcs j (by omega)
      rw [getD_lt es default j hj] at h1
      have h2 := h1 (by rw [has, hvu])
      rw [← hvu] at h2
      simpa using h2
    · exact h.closed v hv hv0 (fun hm => by rcases List.mem_cons.1 hm with h | h <;> contradiction) a ha has
theorem bfs2_start {n s : Int} {es : List Arc} {f b : List Int} (h0 : 0 ≤ s) (h1 : s < n) (hf : f.length = n.toNat) (hb : b.length = n.toNat) (hfi : ∀ v, v < n.toNat → f.getD v 0 = -1) : Bfs2 n s es (f.set s.toNat 0) b [s] := by
  have hs : ((s.toNat : Nat) : Int) = s := Int.toNat_of_nonneg h0
  have hat : ∀ v, (f.set s.toNat 0).getD v 0 = if v = s.toNat then 0 else f.getD v 0 := by
    intro v
    by_cases hv : v = s.toNat
    · subst hv; rw [getD_set_self _ _ _ _ (by omega), if_pos rfl]
    · rw [getD_set_ne _ _ _ _ _ (Ne.symm hv), if_neg hv]
  refine ⟨by rw [List.length_set]; exact hf, hb, by rw [hat, if_pos rfl], fun v hv => ?_, fun u hu => ?_, List.pairwise_singleton _ _, fun _ v hv => ?_, fun v hv hv0 hnt => ?_⟩
  · rw [hat]
    split
    · rename_i e
      subst e
      exact .inr ⟨Int.le_refl _, wk_zero.2 hs.symm, fun _ => hs, fun h => by omega⟩
    · exact .inl (hfi v hv)
  · rw [List.mem_singleton] at hu
    subst hu
    exact ⟨h0, h1, by rw [hat, if_pos rfl]; exact Int.le_refl _⟩
  · rw [List.getD_cons_zero, hat, hat, if_pos rfl]
    split
    · omega
    · have := hfi v hv; omega
  · rw [hat] at hv0
    split at hv0
    · rename_i e
      exact absurd (List.mem_singleton.2 (by omega)) hnt
    · have := hfi v hv; omega
/-- How far each node is. -/
def farAt (es : List Arc) (s : Int) (v : Nat) : Int := if 100 < dist es s v then -1 else dist es s v
def farOf (n : Int) (es : List Arc) (s : Int) : List Int := (List.range n.toNat).map (farAt es s)
theorem farOf_at {n s : Int} {es : List Arc} {v : Nat} (hv : v < n.toNat) : (farOf n es s).getD v 0 = farAt es s v := by
  unfold farOf
  rw [getD_lt ((List.range n.toNat).map _) 0 v (by simpa using hv)]
  simp
/-- By which arc each one is reached. -/
def ByOk (n : Int) (es : List Arc) (s : Int) (by_ : List Int) : Prop := by_.length = n.toNat ∧ ∀ v : Nat, v < n.toNat → (farAt es s v = 0 → (v : Int) = s) ∧ (0 < farAt es s v → 0 ≤ by_.getD v 0 ∧ by_.getD v 0 < es.length ∧ (es.getD (by_.getD v 0).toNat default).dst = v ∧ farAt es s (es.getD (by_.getD v 0).toNat default).src.toNat = farAt es s v - 1)
theorem Bfs2.end_ {n s : Int} {es : List Arc} {fr by_ : List Int} (h : Bfs2 n s es fr by_ []) (hA : InR n es) (h0 : 0 ≤ s) (h1 : s < n) (h12 : n ≤ 12) : fr = farOf n es s ∧ ByOk n es s by_ := by
  have hreach : ∀ (k : Nat) (v : Int), wk es k s v = true → 0 ≤ fr.getD v.toNat 0 ∧ fr.getD v.toNat 0 ≤ k := by
    intro k
    induction k with
    | zero =>
      intro v hw
      rw [wk_zero] at hw
      subst hw
      rw [h.src]; omega
    | succ k ih =>
      intro v hw
      obtain ⟨a, ha, h2, e⟩ := wk_snoc hw
      obtain ⟨i1, i2⟩ := ih a.src h2
      obtain ⟨q1, q2, q3, q4⟩ := hA a ha
      obtain ⟨c1, c2⟩ := h.closed a.src.toNat (by omega) i1 (by simp) a ha (Int.toNat_of_nonneg q1).symm
      rw [← e]
      omega
  have hat : ∀ v : Nat, v < n.toNat → fr.getD v 0 = farAt es s v := by
    intro v hv
    unfold farAt
    rcases dist_cases h12 hA s v with ⟨k, e, h2, h3, h4⟩ | ⟨e, h2⟩
    · obtain ⟨r1, r2⟩ := hreach k v h3
      have e2 : ((v : Int)).toNat = v := by omega
      rw [e2] at r1 r2
      have h5 := (h.at_ v hv).resolve_left (by omega)
      have h6 := h4 _ h5.2.1
      obtain ⟨k', _, h7, h8⟩ := wk_small hA h0 h1 h3
      have h9 := h4 _ h8
      rw [e, if_neg (by omega)]
      omega
    · rw [e, if_pos (by omega)]
      rcases h.at_ v hv with h5 | h5
      · exact h5
      · rw [h2] at h5; exact absurd h5.2.1 (by simp)
  refine ⟨list_ext 0 (by rw [h.len1]; simp [farOf]) fun v hv => ?_, h.len2, fun v hv => ?_⟩
  · rw [h.len1] at hv
    rw [hat v hv, farOf_at hv]
  · rw [← hat v hv]
    refine ⟨fun e => ?_, fun hp => ?_⟩
    · exact ((h.at_ v hv).resolve_left (by omega)).2.2.1 e
    · obtain ⟨g1, g2, g3, g4⟩ := ((h.at_ v hv).resolve_left (by omega)).2.2.2 hp
      refine ⟨g1, g2, g3, ?_⟩
      obtain ⟨q1, q2, _, _⟩ := hA _ (getD_mem (d := default) (show (by_.getD v 0).toNat < es.length by omega))
      rw [← hat _ (by omega)]
      exact g4

/-! ### Ways -/
def isWay (es : List Arc) : List Int → Int → Int → Bool
  | [], s, t => decide (s = t)
  | k :: r, s, t => decide (0 ≤ k ∧ k < es.length ∧ (es.getD k.toNat default).src = s) && isWay es r (es.getD k.toNat default).dst t
def farErr (n : Int) (es : List Arc) (s : Int) : Int := if graphErr n es (-10000) ≠ 0 then graphErr n es (-10000) else if s < 0 ∨ n ≤ s then 4 else 0
def pathErr (n : Int) (es : List Arc) (s t : Int) : Int := if farErr n es s ≠ 0 then farErr n es s else if t < 0 ∨ n ≤ t then 4 else if (farOf n es s).getD t.toNat 0 < 0 then 5 else 0
structure FarOk (n : Int) (es : List Arc) (s : Int) : Prop where
  ok : GOk n es (-10000)
  s0 : 0 ≤ s
  s1 : s < n
theorem farErr_ok {n s : Int} {es : List Arc} (h : farErr n es s = 0) : FarOk n es s := by
  unfold farErr at h
  split at h
  · rename_i h1; exact absurd h h1
  · rename_i h1
    split at h
    · cases h
    · exact ⟨graphErr_ok (Decidable.not_not.1 h1), by omega, by omega⟩
theorem way_step {n s t0 c k : Int} {es : List Arc} {by_ o : List Int} (hA : InR n es) (hB : ByOk n es s by_) (hc0 : 0 ≤ c) (hc1 : c < n) (hk0 : 0 ≤ k) (hk : farAt es s c.toNat = k + 1) (hkl : k.toNat < o.length) (hw : isWay es (o.drop (k + 1).toNat) c t0 = true) :
    (0 ≤ by_.getD c.toNat 0 ∧ by_.getD c.toNat 0 < es.length) ∧ (0 ≤ (es.getD (by_.getD c.toNat 0).toNat default).src ∧ (es.getD (by_.getD c.toNat 0).toNat default).src < n) ∧ farAt es s (es.getD (by_.getD c.toNat 0).toNat default).src.toNat = k ∧
      isWay es ((o.set k.toNat (by_.getD c.toNat 0)).drop k.toNat) (es.getD (by_.getD c.toNat 0).toNat default).src t0 = true := by
  obtain ⟨g1, g2, g3, g4⟩ := (hB.2 c.toNat (by omega)).2 (by omega)
  obtain ⟨q1, q2, _, _⟩ := hA _ (getD_mem (d := default) (show (by_.getD c.toNat 0).toNat < es.length by omega))
  refine ⟨⟨g1, g2⟩, ⟨q1, q2⟩, by omega, ?_⟩
  rw [drop_getD _ 0 _ (by rw [List.length_set]; exact hkl), getD_set_self _ _ _ _ hkl, List.drop_set_of_lt (by omega)]
  have e : k.toNat + 1 = (k + 1).toNat := by omega
  rw [e]
  show (decide (0 ≤ by_.getD c.toNat 0 ∧ by_.getD c.toNat 0 < es.length ∧ (es.getD (by_.getD c.toNat 0).toNat default).src = (es.getD (by_.getD c.toNat 0).toNat default).src) && isWay es (o.drop (k + 1).toNat) (es.getD (by_.getD c.toNat 0).toNat default).dst t0) = true
  rw [decide_eq_true ⟨g1, g2, rfl⟩, Bool.true_and, g3, Int.toNat_of_nonneg hc0]
  exact hw
theorem farAt_in {n s : Int} {es : List Arc} (h12 : n ≤ 12) (hA : InR n es) (v : Nat) : -1 ≤ farAt es s v ∧ farAt es s v ≤ 100 := by
  unfold farAt
  rcases dist_cases h12 hA s v with ⟨k, e, _⟩ | ⟨e, _⟩
  · rw [e]; split <;> omega
  · rw [e, if_pos (by omega)]; omega
theorem isWay_drop {es : List Arc} {w : List Int} {i : Nat} {c t : Int} (hi : i < w.length) : isWay es (w.drop i) c t = (decide (0 ≤ w.getD i 0 ∧ w.getD i 0 < es.length ∧ (es.getD (w.getD i 0).toNat default).src = c) && isWay es (w.drop (i + 1)) (es.getD (w.getD i 0).toNat default).dst t) := by
  rw [drop_getD w 0 i hi]; rfl
theorem negs_le : ∀ l : List Int, negs l ≤ l.length
  | [] => Nat.le_refl _
  | x :: r => by have := negs_le r; simp only [negs, List.length_cons]; split <;> omega
theorem bd_visit {fr : List Int} {d m : Nat} {x : Int} (h : ∀ v, v < m → fr.getD v 0 + (negs fr : Int) ≤ 12) (hd : d < fr.length) (hneg : fr.getD d 0 < 0) (hx : 0 ≤ x) (hx2 : x + (negs fr : Int) ≤ 13) : ∀ v, v < m → (fr.set d x).getD v 0 + (negs (fr.set d x) : Int) ≤ 12 := fun v hv => by
  have hn := negs_set hd hneg hx
  by_cases e : v = d
  · subst e; rw [getD_set_self _ _ _ _ hd]; omega
  · rw [getD_set_ne _ _ _ _ _ (Ne.symm e)]
    have := h v hv
    omega
theorem bd_start {n s : Int} {f : List Int} (hl : f.length = n.toNat) (h0 : 0 ≤ s) (h1 : s < n) (hf : ∀ v, v < n.toNat → f.getD v 0 = -1) (h12 : n ≤ 12) : ∀ v : Nat, v < n.toNat → (f.set s.toNat 0).getD v 0 + (negs (f.set s.toNat 0) : Int) ≤ 12 := fun v hv => by
  have hn := negs_set (l := f) (i := s.toNat) (x := 0) (by omega) (by rw [hf s.toNat (by omega)]; omega) (by omega)
  have hle := negs_le f
  by_cases e : v = s.toNat
  · subst e; rw [getD_set_self _ _ _ _ (by omega)]; omega
  · rw [getD_set_ne _ _ _ _ _ (Ne.symm e), hf v hv]; omega
/-- What is handed back as a way. -/
def WayTo (n : Int) (es : List Arc) (s t : Int) (w : List Int) : Prop := (pathErr n es s t ≠ 0 ∧ w = []) ∨ (pathErr n es s t = 0 ∧ w.length = ((farOf n es s).getD t.toNat 0).toNat ∧ isWay es w s t = true)
def cutFar (x : Int) : Int := if 100 < x then -1 else x
theorem cut_step {l r : List Int} {i : Nat} (hi : i < l.length) (hr : r = (l.take i).map cutFar ++ l.drop i) : r.getD i 0 = l.getD i 0 ∧ (100 < l.getD i 0 → r.set i (-1) = (l.take (i + 1)).map cutFar ++ l.drop (i + 1)) ∧ (¬ 100 < l.getD i 0 → r = (l.take (i + 1)).map cutFar ++ l.drop (i + 1)) := by
  subst hr
  have hs := mid_set cutFar l 0 i hi
  have hg := mid_get cutFar l 0 i hi
  refine ⟨hg, fun h => ?_, fun h => ?_⟩
  · rw [show cutFar (l.getD i 0) = -1 from if_pos h] at hs; exact hs
  · rw [show cutFar (l.getD i 0) = l.getD i 0 from if_neg h, ← hg] at hs
    rw [← hs]
    have hlen := mid_len cutFar l i (by omega)
    refine list_ext 0 (by rw [List.length_set]) fun j hj => ?_
    by_cases e : j = i
    · subst e; rw [getD_set_self _ _ _ _ (by omega)]
    · rw [getD_set_ne _ _ _ _ _ (Ne.symm e)]
theorem cut_far {n s : Int} {es : List Arc} (h0 : 0 ≤ s) (h1 : s < n) : ((waysOf n es).getD s.toNat []).map cutFar = farOf n es s := by
  rw [waysOf_row (by omega), List.map_map, Int.toNat_of_nonneg h0]
  have e : (cutFar ∘ fun (v : Nat) => dist es s (v : Int)) = farAt es s := by
    funext v
    simp only [Function.comp_apply, cutFar, farAt]
  rw [e]
  rfl
end Go.Ab
