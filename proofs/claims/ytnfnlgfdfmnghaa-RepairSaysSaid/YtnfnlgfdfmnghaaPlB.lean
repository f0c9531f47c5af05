/- Plain laws, one behind the other. -/
import Derived.Test.YtnfnlgfdfmnghaaPlA
namespace Go.Ab
def InR (n : Int) (es : List Arc) : Prop := ∀ a ∈ es, 0 ≤ a.src ∧ a.src < n ∧ 0 ≤ a.dst ∧ a.dst < n
def wk (es : List Arc) : Nat → Int → Int → Bool
  | 0, u, v => decide (u = v)
  | k + 1, u, v => es.any fun a => decide (a.src = u) && wk es k a.dst v
inductive Wm (es : List Arc) (m : Int) : Int → Int → Nat → Prop
  | nil (u : Int) : Wm es m u u 0
  | arc {a : Arc} (h : a ∈ es) : Wm es m a.src a.dst 1
  | join {u w v : Int} {i j : Nat} (h0 : 0 ≤ w) (h1 : w < m) (h2 : Wm es m u w i) (h3 : Wm es m w v j) : Wm es m u v (i + j)
def wlim : Nat := 4097
def dist (es : List Arc) (u v : Int) : Int := match (List.range wlim).find? (fun k => wk es k u v) with | some k => (k : Int) | none => 1099511627776
theorem find_range (p : Nat → Bool) (n : Nat) : (∃ k, (List.range n).find? p = some k ∧ k < n ∧ p k = true ∧ ∀ j, j < k → p j = false) ∨ ((List.range n).find? p = none ∧ ∀ j, j < n → p j = false) := by
  induction n with
  | zero => exact .inr ⟨rfl, fun j hj => by omega⟩
  | succ n ih =>
    rw [List.range_succ, List.find?_append]
    rcases ih with ⟨k, e, h1, h2, h3⟩ | ⟨e, h1⟩
    · exact .inl ⟨k, by rw [e]; rfl, by omega, h2, h3⟩
    · rw [e, Option.none_or, List.find?_singleton]
      by_cases hp : p n = true
      · exact .inl ⟨n, by rw [if_pos hp], by omega, hp, h1⟩
      · refine .inr ⟨by rw [if_neg hp], fun j hj => ?_⟩
        rcases Nat.lt_succ_iff_lt_or_eq.1 hj with h | h
        · exact h1 j h
        · subst h; simpa using hp
def at2 (D : List (List Int)) (u v : Nat) : Int := (D.getD u []).getD v 0
structure Sq (n : Nat) (D : List (List Int)) : Prop where
  len : D.length = n
  row : ∀ r, r < n → (D.getD r []).length = n
def Sound (n : Nat) (es : List Arc) (D : List (List Int)) : Prop := ∀ u v : Nat, u < n → v < n → 0 ≤ at2 D u v ∧ at2 D u v ≤ 1099511627776 ∧ (at2 D u v = 1099511627776 ∨ ∃ k : Nat, at2 D u v = k ∧ wk es k u v = true)
structure Arcs1 (n : Nat) (es : List Arc) (D : List (List Int)) (k : Nat) : Prop where
  sq : Sq n D
  sound : Sound n es D
  self : ∀ u, u < n → at2 D u u ≤ 0
  arcs : ∀ j, j < k → at2 D (es.getD j default).src.toNat (es.getD j default).dst.toNat ≤ 1
def Comp (n : Nat) (es : List Arc) (D : List (List Int)) (m : Nat) : Prop := ∀ (u v : Nat) (k : Nat), u < n → v < n → Wm es m u v k → at2 D u v ≤ k
def Done (n : Nat) (es : List Arc) (D : List (List Int)) (m i k : Nat) : Prop := ∀ (u v a b : Nat), u < n → v < n → (u < i ∨ (u = i ∧ v < k)) → Wm es m u m a → Wm es m m v b → at2 D u v ≤ (a : Int) + b
structure Ways1 (n : Nat) (es : List Arc) (D : List (List Int)) (m i k : Nat) : Prop where
  sq : Sq n D
  sound : Sound n es D
  comp : Comp n es D m
  done : Done n es D m i k
end Go.Ab
namespace Go.Ab
def within (es : List Arc) (k : Nat) (u : Int) (v : Nat) : Bool := (List.range (k + 1)).any fun j => wk es j u v
structure Lab (n : Int) (es : List Arc) (o : List Int) : Prop where
  len : o.length = n.toNat
  at_ : ∀ v : Nat, v < n.toNat → 0 ≤ o.getD v 0 ∧ o.getD v 0 < n ∧ ∃ k, wk (bothA es) k v (o.getD v 0) = true
structure Round (es : List Arc) (o0 o : List Int) (i : Nat) : Prop where
  le : ∀ v, o.getD v 0 ≤ o0.getD v 0
  arcs : ∀ j, j < i → o.getD (es.getD j default).src.toNat 0 ≤ o0.getD (es.getD j default).dst.toNat 0 ∧ o.getD (es.getD j default).dst.toNat 0 ≤ o0.getD (es.getD j default).src.toNat 0
end Go.Ab
namespace Go.Ab
structure Bfs2 (n s : Int) (es : List Arc) (fr by_ todo : List Int) : Prop where
  len1 : fr.length = n.toNat
  len2 : by_.length = n.toNat
  src : fr.getD s.toNat 0 = 0
  at_ : ∀ v : Nat, v < n.toNat → fr.getD v 0 = -1 ∨ (0 ≤ fr.getD v 0 ∧ wk es (fr.getD v 0).toNat s v = true ∧ (fr.getD v 0 = 0 → (v : Int) = s) ∧
    (0 < fr.getD v 0 → 0 ≤ by_.getD v 0 ∧ by_.getD v 0 < es.length ∧ (es.getD (by_.getD v 0).toNat default).dst = v ∧ fr.getD (es.getD (by_.getD v 0).toNat default).src.toNat 0 = fr.getD v 0 - 1))
  queue : ∀ u ∈ todo, 0 ≤ u ∧ u < n ∧ 0 ≤ fr.getD u.toNat 0
  sorted : todo.Pairwise (fun a b => fr.getD a.toNat 0 ≤ fr.getD b.toNat 0)
  front : 0 < todo.length → ∀ v : Nat, v < n.toNat → fr.getD v 0 ≤ fr.getD (todo.getD 0 0).toNat 0 + 1
  closed : ∀ v : Nat, v < n.toNat → 0 ≤ fr.getD v 0 → (v : Int) ∉ todo → ∀ a ∈ es, a.src = v → 0 ≤ fr.getD a.dst.toNat 0 ∧ fr.getD a.dst.toNat 0 ≤ fr.getD v 0 + 1
structure Seen (es : List Arc) (fr : List Int) (at_ : Int) (i : Nat) : Prop where
  arcs : ∀ j, j < i → (es.getD j default).src = at_ → 0 ≤ fr.getD (es.getD j default).dst.toNat 0 ∧ fr.getD (es.getD j default).dst.toNat 0 ≤ fr.getD at_.toNat 0 + 1
def farAt (es : List Arc) (s : Int) (v : Nat) : Int := if 100 < dist es s v then -1 else dist es s v
def ByOk (n : Int) (es : List Arc) (s : Int) (by_ : List Int) : Prop := by_.length = n.toNat ∧ ∀ v : Nat, v < n.toNat → (farAt es s v = 0 → (v : Int) = s) ∧ (0 < farAt es s v → 0 ≤ by_.getD v 0 ∧ by_.getD v 0 < es.length ∧ (es.getD (by_.getD v 0).toNat default).dst = v ∧ farAt es s (es.getD (by_.getD v 0).toNat default).src.toNat = farAt es s v - 1)
def isWay (es : List Arc) : List Int → Int → Int → Bool
  | [], s, t => decide (s = t)
  | k :: r, s, t => decide (0 ≤ k ∧ k < es.length ∧ (es.getD k.toNat default).src = s) && isWay es r (es.getD k.toNat default).dst t
structure FarOk (n : Int) (es : List Arc) (s : Int) : Prop where
  ok : GOk n es (-10000)
  s0 : 0 ≤ s
  s1 : s < n
theorem way_step {n s t0 c k : Int} {es : List Arc} {by_ o : List Int} (hA : InR n es) (hB : ByOk n es s by_) (hc0 : 0 ≤ c) (hc1 : c < n) (hk0 : 0 ≤ k) (hk : farAt es s c.toNat = k + 1) (hkl : k.toNat < o.length) (hw : isWay es (o.drop (k + 1).toNat) c t0 = true) :
    (0 ≤ by_.getD c.toNat 0 ∧ by_.getD c.toNat 0 < es.length) ∧ (0 ≤ (es.getD (by_.getD c.toNat 0).toNat default).src ∧ (es.getD (by_.getD c.toNat 0).toNat default).src < n) ∧ farAt es s (es.getD (by_.getD c.toNat 0).toNat default).src.toNat = k ∧
      isWay es ((o.set k.toNat (by_.getD c.toNat 0)).drop k.toNat) (es.getD (by_.getD c.toNat 0).toNat default).src t0 = true := by
  obtain ⟨g1, g2, g3, g4⟩ := (hB.2 c.toNat (by omega)).2 (by omega)
  obtain ⟨q1, q2, _, _⟩ := hA _ (getD_mem (d := default) (show (by_.getD c.toNat 0).toNat < es.length by omega))
  refine ⟨⟨g1, g2⟩, ⟨q1, q2⟩, by omega, ?_⟩
  rw [drop_getD _ 0 _ (by rw [List.length_set]; exact hkl), getD_set_self _ _ _ _ hkl, List.drop_set_of_lt (by omega)]
  have e : k.toNat + 1 = (k + 1).toNat := by omega
  rw [e]
  show (decide (0 ≤ by_.getD c.toNat 0 ∧ by_.getD c.toNat 0 < es.length ∧ (es.getD (by_.getD c.toNat 0).toNat default).src = (es.getD (by_.getD c.toNat 0).toNat default).src) && isWay es (o.drop (k + 1).toNat) (es.getD (by_.getD c.toNat 0).toNat default).dst t0) = true
  rw [decide_eq_true ⟨g1, g2, rfl⟩, Bool.true_and, g3, Int.toNat_of_nonneg hc0]
  exact hw
theorem isWay_drop {es : List Arc} {w : List Int} {i : Nat} {c t : Int} (hi : i < w.length) : isWay es (w.drop i) c t = (decide (0 ≤ w.getD i 0 ∧ w.getD i 0 < es.length ∧ (es.getD (w.getD i 0).toNat default).src = c) && isWay es (w.drop (i + 1)) (es.getD (w.getD i 0).toNat default).dst t) := by
  rw [drop_getD w 0 i hi]; rfl
end Go.Ab
