/- Of ways in what is left of a net: the plain laws. -/
import Derived.Test.YteccjcionjkllaaPlCut
namespace Go.Ab
/-- The arc k leads from u to v, forward or back, and takes something yet. -/
def Res (es : List Arc) (f : List Int) (k : Int) (b : Bool) (u v : Int) : Prop :=
  0 ≤ k ∧ k < es.length ∧ (if b = true then (es.getD k.toNat default).dst = u ∧ (es.getD k.toNat default).src = v ∧ 0 < f.getD k.toNat 0 else (es.getD k.toNat default).src = u ∧ (es.getD k.toNat default).dst = v ∧ f.getD k.toNat 0 < (es.getD k.toNat default).cap)
/-- How many are below 0. -/
def negs : List Int → Nat
  | [] => 0
  | x :: r => (if x < 0 then 1 else 0) + negs r
theorem negs_set : ∀ {l : List Int} {i : Nat} {x : Int}, i < l.length → l.getD i 0 < 0 → 0 ≤ x → negs (l.set i x) + 1 = negs l
  | [], _, _, h, _, _ => by simp at h
  | y :: r, 0, x, _, h1, h2 => by
    simp only [List.getD_cons_zero] at h1
    simp only [List.set_cons_zero, negs]
    rw [if_neg (by omega), if_pos h1]; omega
  | y :: r, i + 1, x, h, h1, h2 => by
    have := negs_set (l := r) (i := i) (x := x) (by simpa using h) (by simpa using h1) h2
    simp only [List.set_cons_succ, negs]; omega
/-- The nodes that are found, and whence. -/
structure Bfs (es : List Arc) (f : List Int) (s n : Int) (fr : List Int) (st : List (Int × Bool)) (todo : List Int) (r : Nat → Nat) (c : Nat) : Prop where
  l1 : fr.length = 12
  l2 : st.length = 12
  src : fr.getD s.toNat 0 = s
  lo : ∀ v, v < 12 → -1 ≤ fr.getD v 0
  vis : ∀ v : Nat, v < 12 → 0 ≤ fr.getD v 0 → (v : Int) < n ∧ fr.getD v 0 < n ∧ 0 ≤ fr.getD (fr.getD v 0).toNat 0 ∧ r v < c ∧
    ((v : Int) ≠ s → Res es f (st.getD v (0, false)).1 (st.getD v (0, false)).2 (fr.getD v 0) (v : Int) ∧ r (fr.getD v 0).toNat < r v)
  todo_ : ∀ u ∈ todo, 0 ≤ u ∧ u < n ∧ 0 ≤ fr.getD u.toNat 0
/-- From the nodes that wait no more nothing new is found. -/
def Closed (es : List Arc) (f : List Int) (n : Int) (fr : List Int) (todo : List Int) : Prop := ∀ u, 0 ≤ u → u < n → 0 ≤ fr.getD u.toNat 0 → u ∉ todo → ∀ k b v, Res es f k b u v → 0 ≤ v → v < n → 0 ≤ fr.getD v.toNat 0
theorem Bfs.visit {es : List Arc} {f : List Int} {s n : Int} {fr : List Int} {st : List (Int × Bool)} {todo : List Int} {r : Nat → Nat} {c : Nat} (h : Bfs es f s n fr st todo r c) (hn : n ≤ 12) {u v k : Int} {b : Bool} (hs : 0 ≤ s) (u0 : 0 ≤ u) (u1 : u < n) (uv : 0 ≤ fr.getD u.toNat 0)
    (v0 : 0 ≤ v) (v1 : v < n) (vv : fr.getD v.toNat 0 < 0) (hr : Res es f k b u v) (hsn : s < n) : Bfs es f s n (fr.set v.toNat u) (st.set v.toNat (k, b)) (todo ++ [v]) (fun x => if x = v.toNat then c else r x) (c + 1) := by
  have hv12 : v.toNat < fr.length := by have := h.l1; omega
  have hvs : v.toNat ≠ s.toNat := by
    intro e
    rw [e, h.src] at vv; omega
  have get : ∀ x, (fr.set v.toNat u).getD x 0 = if x = v.toNat then u else fr.getD x 0 := by
    intro x
    by_cases hx : x = v.toNat
    · subst hx; rw [if_pos rfl, getD_set_self _ _ _ _ hv12]
    · rw [if_neg hx, getD_set_ne _ _ _ _ _ (Ne.symm hx)]
  have getS : ∀ x, (st.set v.toNat (k, b)).getD x (0, false) = if x = v.toNat then (k, b) else st.getD x (0, false) := by
    intro x
    by_cases hx : x = v.toNat
    · subst hx; rw [if_pos rfl, getD_set_self _ _ _ _ (by have := h.l2; omega)]
    · rw [if_neg hx, getD_set_ne _ _ _ _ _ (Ne.symm hx)]
  refine ⟨by simp [h.l1], by simp [h.l2], by rw [get, if_neg (Ne.symm hvs)]; exact h.src, fun x hx => ?_, fun x hx hvx => ?_, fun y hy => ?_⟩
  · rw [get]; split
    · omega
    · exact h.lo x hx
  · rw [get] at hvx ⊢
    by_cases hxv : x = v.toNat
    · simp only [if_pos hxv] at hvx ⊢
      have hu : u.toNat ≠ v.toNat := by
        intro e; rw [e] at uv; omega
      have hur := (h.vis u.toNat (by omega) uv).2.2.2.1
      refine ⟨by omega, u1, ?_, by omega, fun _ => ⟨?_, ?_⟩⟩
      · rw [get, if_neg hu]; exact uv
      · rw [getS, if_pos hxv, hxv, show ((v.toNat : Nat) : Int) = v by omega]; exact hr
      · rw [if_neg hu]; exact hur
    · simp only [if_neg hxv] at hvx ⊢
      obtain ⟨h1, h2, h3, h4, h5⟩ := h.vis x hx hvx
      have hpx : (fr.getD x 0).toNat ≠ v.toNat := by
        intro e; rw [e] at h3; omega
      refine ⟨h1, h2, ?_, by omega, fun hxs => ?_⟩
      · rw [get, if_neg hpx]; exact h3
      · obtain ⟨k1, k2⟩ := h5 hxs
        rw [getS, if_neg hxv, if_neg hpx]
        exact ⟨k1, k2⟩
  · rw [get]
    rcases List.mem_append.1 hy with hy | hy
    · obtain ⟨y0, y1, y2⟩ := h.todo_ y hy
      refine ⟨y0, y1, ?_⟩
      split
      · exact u0
      · exact y2
    · rw [List.mem_singleton] at hy
      subst hy
      rw [if_pos rfl]
      exact ⟨v0, v1, u0⟩
theorem Closed.visit {es : List Arc} {f : List Int} {n : Int} {fr todo : List Int} (h : Closed es f n fr todo) {u v : Int} (u0 : 0 ≤ u) (v0 : 0 ≤ v) (hv : v.toNat < fr.length) : Closed es f n (fr.set v.toNat u) (todo ++ [v]) := by
  intro x x0 x1 xv xt k b y hr y0 y1
  have hxv : x.toNat ≠ v.toNat := by
    intro e
    have : x = v := by omega
    subst this
    exact xt (List.mem_append_right _ (List.mem_singleton.2 rfl))
  rw [getD_set_ne _ _ _ _ _ (Ne.symm hxv)] at xv
  have := h x x0 x1 xv (fun hm => xt (List.mem_append_left _ hm)) k b y hr y0 y1
  by_cases hy : v.toNat = y.toNat
  · rw [← hy, getD_set_self _ _ _ _ hv]; exact u0
  · rw [getD_set_ne _ _ _ _ _ hy]; exact this
/-- What stays found. -/
theorem found_visit {fr : List Int} {u v : Int} (u0 : 0 ≤ u) (hv : v.toNat < fr.length) {x : Nat} (h : 0 ≤ fr.getD x 0) : 0 ≤ (fr.set v.toNat u).getD x 0 := by
  by_cases hx : v.toNat = x
  · rw [← hx, getD_set_self _ _ _ _ hv]; exact u0
  · rw [getD_set_ne _ _ _ _ _ hx]; exact h

/-! ### A side of the found nodes -/
def maskOf (p : Nat → Bool) : Nat → Nat
  | 0 => 0
  | n + 1 => maskOf p n + (if p n = true then 2 ^ n else 0)
theorem maskOf_lt (p : Nat → Bool) : ∀ n, maskOf p n < 2 ^ n
  | 0 => by simp [maskOf]
  | n + 1 => by
    have := maskOf_lt p n
    simp only [maskOf, Nat.pow_succ]
    split <;> omega
theorem maskOf_bit (p : Nat → Bool) : ∀ n v, v < n → (maskOf p n / 2 ^ v) % 2 = if p v = true then 1 else 0
  | 0, _, h => by omega
  | n + 1, v, h => by
    have hlt := maskOf_lt p n
    simp only [maskOf]
    rcases Nat.lt_succ_iff_lt_or_eq.1 h with hv | hv
    · have ih := maskOf_bit p n v hv
      by_cases hp : p n = true
      · rw [if_pos hp]
        have h2 : 2 ^ n = 2 ^ v * (2 * 2 ^ (n - v - 1)) := by
          rw [← Nat.pow_succ', ← Nat.pow_add]; congr 1; omega
        rw [h2, Nat.add_mul_div_left _ _ (Nat.pow_pos (by decide)), Nat.add_mul_mod_self_left]
        exact ih
      · rw [if_neg hp, Nat.add_zero]; exact ih
    · subst hv
      have h0 : maskOf p v / 2 ^ v = 0 := Nat.div_eq_of_lt hlt
      by_cases hp : p v = true
      · rw [if_pos hp, if_pos hp, Nat.add_div_right _ (Nat.pow_pos (by decide)), h0]
      · rw [if_neg hp, if_neg hp, Nat.add_zero, h0]
theorem bit_nat (m v : Nat) : bit (m : Int) (v : Int) = (((m / 2 ^ v) % 2 : Nat) : Int) := by
  unfold bit iand
  have h1 : ((m : Int) / 2 ^ (v : Int).toNat).toNat = m / 2 ^ v := by
    rw [show ((v : Int).toNat) = v by omega, show (2 : Int) ^ v = ((2 ^ v : Nat) : Int) by norm_cast, ← Int.natCast_ediv]
    exact Int.toNat_natCast _
  rw [h1]
  exact congrArg _ (Nat.and_one_is_mod _)
/-- Where the sink is not found: a side that is shut. -/
theorem Bfs.shut {es : List Arc} {f : List Int} {s t n : Int} {fr : List Int} {st : List (Int × Bool)} {r : Nat → Nat} {c : Nat} (hok : NOk n s t es) (hf : FIn es f) (h : Bfs es f s n fr st [] r c) (hc : Closed es f n fr []) (ht : fr.getD t.toNat 0 < 0) : ∃ z, Parts n s t z ∧ Shut es f z := by
  have h2 := hok.n2
  have h4 := hok.s0
  have h5 := hok.s1
  have h6 := hok.t0
  have h7 := hok.t1
  refine ⟨((maskOf (fun v => decide (0 ≤ fr.getD v 0)) n.toNat : Nat) : Int), ⟨by omega, Int.ofNat_lt.2 (maskOf_lt _ _), ?_, ?_⟩, ?_⟩
  · have := bit_nat (maskOf (fun v => decide (0 ≤ fr.getD v 0)) n.toNat) s.toNat
    rw [show ((s.toNat : Nat) : Int) = s by omega, maskOf_bit _ _ _ (by omega), if_pos (by rw [h.src]; simpa using h4)] at this
    exact this
  · have := bit_nat (maskOf (fun v => decide (0 ≤ fr.getD v 0)) n.toNat) t.toNat
    rw [show ((t.toNat : Nat) : Int) = t by omega, maskOf_bit _ _ _ (by omega), if_neg (by simpa using ht)] at this
    exact this
  · intro k hk
    obtain ⟨a1, a2, a3, a4, _, _⟩ := hok.at_ hk
    have hfk := hf.at_ k hk
    have b1 := bit_nat (maskOf (fun v => decide (0 ≤ fr.getD v 0)) n.toNat) (es.getD k default).src.toNat
    have b2 := bit_nat (maskOf (fun v => decide (0 ≤ fr.getD v 0)) n.toNat) (es.getD k default).dst.toNat
    rw [show (((es.getD k default).src.toNat : Nat) : Int) = (es.getD k default).src by omega, maskOf_bit _ _ _ (by omega)] at b1
    rw [show (((es.getD k default).dst.toNat : Nat) : Int) = (es.getD k default).dst by omega, maskOf_bit _ _ _ (by omega)] at b2
    rw [b1, b2]
    constructor
    · intro e1 e2
      split at e1
      · rename_i p1
        split at e2
        · cases e2
        · rename_i p2
          cases Int.decEq (f.getD k 0) (es.getD k default).cap with
          | isTrue e => exact e
          | isFalse e =>
            refine absurd ?_ p2
            have := hc (es.getD k default).src a1 a2 (by simpa using p1) (by simp) (k : Int) false (es.getD k default).dst ⟨by omega, by omega, by simp only [Bool.false_eq_true, if_false]; rw [show (k : Int).toNat = k by omega]; exact ⟨rfl, rfl, by omega⟩⟩ a3 a4
            simpa using this
      · cases e1
    · intro e1 e2
      split at e2
      · rename_i p2
        split at e1
        · cases e1
        · rename_i p1
          cases Int.decEq (f.getD k 0) 0 with
          | isTrue e => exact e
          | isFalse e =>
            refine absurd ?_ p1
            have := hc (es.getD k default).dst a3 a4 (by simpa using p2) (by simp) (k : Int) true (es.getD k default).src ⟨by omega, by omega, by simp only [if_true]; rw [show (k : Int).toNat = k by omega]; exact ⟨rfl, rfl, by omega⟩⟩ a1 a2
            simpa using this
      · cases e2

/-! ### The way back from the sink -/
/-- What a step may take yet. -/
def room1 (es : List Arc) (f : List Int) (p : Int × Bool) : Int := if p.2 = true then f.getD p.1.toNat 0 else (es.getD p.1.toNat default).cap - f.getD p.1.toNat 0
/-- Steps from t back to a. -/
def ChainB (es : List Arc) (f : List Int) : Int → List (Int × Bool) → Int → Prop
  | t, [], a => t = a
  | t, p :: r, a => ∃ u, Res es f p.1 p.2 u t ∧ ChainB es f u r a
theorem ChainB.snoc {es : List Arc} {f : List Int} {p : Int × Bool} {a u : Int} (hr : Res es f p.1 p.2 u a) : ∀ {l : List (Int × Bool)} {t : Int}, ChainB es f t l a → ChainB es f t (l ++ [p]) u
  | [], t, h => by
    have : t = a := h
    subst this
    exact ⟨u, hr, rfl⟩
  | q :: r, t, ⟨w, h1, h2⟩ => ⟨w, h1, ChainB.snoc hr h2⟩
/-- No arc twice. -/
def Once : List (Int × Bool) → Prop
  | [] => True
  | p :: r => (∀ q ∈ r, q.1 ≠ p.1) ∧ Once r
theorem Once.snoc {p : Int × Bool} : ∀ {l : List (Int × Bool)}, Once l → (∀ q ∈ l, q.1 ≠ p.1) → Once (l ++ [p])
  | [], _, _ => ⟨fun q hq => by simp at hq, trivial⟩
  | q :: r, h, hn => ⟨fun x hx => by
      rcases List.mem_append.1 hx with hx | hx
      · exact h.1 x hx
      · rw [List.mem_singleton] at hx
        subst hx
        exact fun e => hn q List.mem_cons_self e.symm, Once.snoc h.2 (fun x hx => hn x (List.mem_cons_of_mem _ hx))⟩
/-- What 'way' answers: a shut side; or steps from the sink back to the source, no arc twice, each of which takes so much. -/
def WayOk (n s t : Int) (es : List Arc) (f : List Int) (l : List (Int × Bool)) (room : Int) : Prop :=
  (room = 0 ∧ l = [] ∧ ∃ z, Parts n s t z ∧ Shut es f z) ∨ (0 < room ∧ room ≤ 10000 ∧ ChainB es f t l s ∧ Once l ∧ (∀ p ∈ l, room ≤ room1 es f p) ∧ l.length ≤ 12)
theorem Res.ends {es : List Arc} {f : List Int} {k : Int} {b : Bool} {u v : Int} (h : Res es f k b u v) : ((es.getD k.toNat default).src = u ∧ (es.getD k.toNat default).dst = v) ∨ ((es.getD k.toNat default).src = v ∧ (es.getD k.toNat default).dst = u) := by
  obtain ⟨_, _, h⟩ := h
  split at h
  · exact .inr ⟨h.2.1, h.1⟩
  · exact .inl ⟨h.1, h.2.1⟩
theorem Res.pos {es : List Arc} {f : List Int} {k : Int} {b : Bool} {u v : Int} (h : Res es f k b u v) : 0 < room1 es f (k, b) := by
  obtain ⟨_, _, h⟩ := h
  unfold room1
  cases b
  · simp only [Bool.false_eq_true, if_false] at h ⊢; omega
  · simp only [if_true] at h ⊢; omega
/-- The steps so far lie above the node at hand. -/
def Above (es : List Arc) (r : Nat → Nat) (a : Int) (l : List (Int × Bool)) : Prop := ∀ p ∈ l, r a.toNat ≤ r (es.getD p.1.toNat default).src.toNat ∧ r a.toNat ≤ r (es.getD p.1.toNat default).dst.toNat
theorem Above.snoc {es : List Arc} {f : List Int} {r : Nat → Nat} {a u k : Int} {b : Bool} {l : List (Int × Bool)} (h : Above es r a l) (hr : Res es f k b u a) (hlt : r u.toNat < r a.toNat) : Above es r u (l ++ [(k, b)]) ∧ ∀ q ∈ l, q.1 ≠ k := by
  refine ⟨fun p hp => ?_, fun q hq e => ?_⟩
  · rcases List.mem_append.1 hp with hp | hp
    · have := h p hp; omega
    · rw [List.mem_singleton] at hp
      subst hp
      rcases hr.ends with ⟨e1, e2⟩ | ⟨e1, e2⟩ <;> rw [e1, e2] <;> omega
  · have := h q hq
    rw [e] at this
    rcases hr.ends with ⟨e1, e2⟩ | ⟨e1, e2⟩ <;> rw [e1, e2] at this <;> omega
theorem Closed.next {es : List Arc} {f : List Int} {n : Int} {fr todo x : List Int} (h : Closed es f n fr (todo ++ x)) (hne : 0 < todo.length)
    (ha : ∀ k b v, Res es f k b (todo.getD 0 0) v → 0 ≤ v → v < n → 0 ≤ fr.getD v.toNat 0) : Closed es f n fr ((todo ++ x).drop 1) := by
  intro u u0 u1 uv ut k b v hr v0 v1
  by_cases hu : u = todo.getD 0 0
  · subst hu; exact ha k b v hr v0 v1
  · refine h u u0 u1 uv (fun hm => ?_) k b v hr v0 v1
    match todo, hne with
    | y :: r, _ =>
      simp only [List.getD_cons_zero] at hu
      simp only [List.cons_append, List.mem_cons] at hm
      rcases hm with hm | hm
      · exact hu hm
      · exact ut (by simpa using hm)
theorem bfs_start {es : List Arc} {f m : List Int} {s n : Int} (hm : m.length = 12) (h : ∀ j, j < 12 → m.getD j 0 = -1) (h0 : 0 ≤ s) (h1 : s < n) (h2 : n ≤ 12) {bs : List (Int × Bool)} (hb : bs.length = 12) :
    Bfs es f s n (m.set s.toNat s) bs [s] (fun _ => 0) 1 ∧ Closed es f n (m.set s.toNat s) [s] ∧ negs (m.set s.toNat s) + 1 ≤ 12 := by
  have get : ∀ x, (m.set s.toNat s).getD x 0 = if x = s.toNat then s else m.getD x 0 := by
    intro x
    by_cases hx : x = s.toNat
    · subst hx; rw [if_pos rfl, getD_set_self _ _ _ _ (by omega)]
    · rw [if_neg hx, getD_set_ne _ _ _ _ _ (Ne.symm hx)]
  refine ⟨⟨by simp [hm], hb, by rw [get, if_pos rfl], fun v hv => ?_, fun v hv hvis => ?_, fun u hu => ?_⟩, fun u u0 u1 uv ut => ?_, ?_⟩
  · rw [get]; split
    · omega
    · have := h v hv; omega
  · rw [get] at hvis ⊢
    by_cases hx : v = s.toNat
    · simp only [if_pos hx]
      refine ⟨by omega, h1, ?_, by omega, fun hn => absurd (by omega) hn⟩
      rw [get, if_pos rfl]; exact h0
    · simp only [if_neg hx] at hvis
      have := h v hv; omega
  · rw [List.mem_singleton] at hu
    subst hu
    exact ⟨h0, h1, by rw [get, if_pos rfl]; exact h0⟩
  · rw [get] at uv
    by_cases hx : u.toNat = s.toNat
    · exact absurd (List.mem_singleton.2 (by omega)) ut
    · rw [if_neg hx] at uv
      have := h u.toNat (by omega)
      omega
  · have := negs_set (l := m) (i := s.toNat) (x := s) (by omega) (by have := h s.toNat (by omega); omega) h0
    have hle : ∀ l : List Int, negs l ≤ l.length := by
      intro l
      induction l with
      | nil => exact Nat.le_refl _
      | cons x r ih => simp only [negs, List.length_cons]; split <;> omega
    have := hle m
    omega
end Go.Ab
