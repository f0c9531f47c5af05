/- Plain laws, one behind the other. -/
import Derived.Test.YtlmbjjbcdgckfaaDoorAbA
namespace Go.Ab
theorem bs : (∀ a b : Bool, ((a || b) = true) = (a = true ∨ b = true)) ∧ (∀ a b : Bool, ((a && b) = true) = (a = true ∧ b = true)) ∧ (∀ a : Bool, ((!a) = true) = (a = false)) ∧
  (∀ (p : Prop) [Decidable p], (decide p = true) = p) ∧ (∀ a b : Bool, ((a || b) = false) = (a = false ∧ b = false)) ∧ (∀ a b : Bool, ((a && b) = false) = (a = false ∨ b = false)) ∧
  (∀ a : Bool, ((!a) = false) = (a = true)) ∧ (∀ (p : Prop) [Decidable p], (decide p = false) = ¬ p) ∧ ((!false) = true) ∧ ((!true) = false) :=
 ⟨fun a b => by simp, fun a b => by simp, fun a => by simp, fun p _ => by simp, fun a b => by simp, fun a b => by cases a <;> simp, fun a => by simp, fun p _ => by simp, rfl, rfl⟩
theorem lens {α : Type} : (∀ a b : List α, (a ++ b).length = a.length + b.length) ∧ (∀ (x : α) (a : List α), (x :: a).length = a.length + 1) ∧ (([] : List α).length = 0) ∧
  (∀ (a : List α) i x, (a.set i x).length = a.length) ∧ (∀ n (x : α), (List.replicate n x).length = n) ∧ (∀ (a : List α) n, (a.drop n).length = a.length - n) :=
 ⟨fun _ _ => List.length_append, fun _ _ => rfl, rfl, fun _ _ _ => List.length_set, fun _ _ => List.length_replicate, fun _ _ => List.length_drop⟩
theorem getD_lt {α : Type} (xs : List α) (d : α) (i : Nat) (h : i < xs.length) : xs.getD i d = xs[i] := by simp [List.getD_eq_getElem?_getD, List.getElem?_eq_getElem h]
theorem getD_mem {α : Type} {xs : List α} {d : α} {i : Nat} (h : i < xs.length) : xs.getD i d ∈ xs := by rw [getD_lt xs d i h]; exact List.getElem_mem h
theorem getD_ge {α : Type} (xs : List α) (d : α) (i : Nat) (h : xs.length ≤ i) : xs.getD i d = d := by simp [List.getD_eq_getElem?_getD, List.getElem?_eq_none h]
theorem list_ext {α : Type} {xs ys : List α} (d : α) (hl : xs.length = ys.length) (h : ∀ i, i < xs.length → xs.getD i d = ys.getD i d) : xs = ys := by
 refine List.ext_getElem hl fun i h1 h2 => ?_
 have := h i h1
 rwa [getD_lt xs d i h1, getD_lt ys d i h2] at this
theorem drop_getD {α : Type} (xs : List α) (d : α) (i : Nat) (h : i < xs.length) : xs.drop i = xs.getD i d :: xs.drop (i + 1) := by
 rw [getD_lt xs d i h]; exact List.drop_eq_getElem_cons h
theorem take_getD {α : Type} (xs : List α) (d : α) (i : Nat) (h : i < xs.length) : xs.take (i + 1) = xs.take i ++ [xs.getD i d] := by
 rw [getD_lt xs d i h]; exact (List.take_append_getElem h).symm
theorem eq_no {α : Type} [DecidableEq α] {xs ys : List α} (h : ¬ xs = ys) : false = decide (xs = ys) := (decide_eq_false h).symm
theorem eq_yes {α : Type} [DecidableEq α] {xs ys : List α} (h : xs = ys) : true = decide (xs = ys) := (decide_eq_true h).symm
theorem getD_set_self {α : Type} (l : List α) (i : Nat) (a d : α) (h : i < l.length) : (l.set i a).getD i d = a := by
 rw [List.getD_eq_getElem?_getD, List.getElem?_set_self h]; rfl
theorem getD_set_ne {α : Type} (l : List α) (i j : Nat) (a d : α) (h : i ≠ j) : (l.set i a).getD j d = l.getD j d := by
 rw [List.getD_eq_getElem?_getD, List.getElem?_set_ne h, ← List.getD_eq_getElem?_getD]
end Go.Ab
namespace Go.Ab
end Go.Ab
namespace Go.Ab
structure RevTo (d x : List Int) (i : Nat) (j : Int) : Prop where
 ij : j + i + 1 = d.length
 len : x.length = d.length
 at_ : ∀ p : Nat, p < d.length → x.getD p 0 = if (p < i ∨ j < p) then d.getD (d.length - 1 - p) 0 else d.getD p 0
end Go.Ab
namespace Go.Ab
theorem nodup_len {α : Type} [DecidableEq α] : ∀ {l m : List α}, l.Nodup → (∀ x ∈ l, x ∈ m) → l.length ≤ m.length
 | [], _, _, _ => by simp
 | a :: l, m, hn, h => by
  have hn' := List.nodup_cons.1 hn
  have ha := h a List.mem_cons_self
  have h1 := nodup_len (l := l) (m := m.erase a) hn'.2 (fun x hx => (List.mem_erase_of_ne (by rintro rfl; exact hn'.1 hx)).2 (h x (List.mem_cons_of_mem _ hx)))
  rw [List.length_erase_of_mem ha] at h1
  have : 0 < m.length := List.length_pos_of_mem ha
  simp only [List.length_cons]
  omega
end Go.Ab
namespace Go.Ab
def treeOk (up : List Int) : Prop := ∀ k, k < up.length → 0 ≤ up.getD k 0 ∧ up.getD k 0 ≤ max 0 ((k : Int) - 1)
instance (up : List Int) : Decidable (treeOk up) := by unfold treeOk; infer_instance
def minOf : List Int → Int
 | [] => 0
 | x :: r => r.foldl min x
end Go.Ab
namespace Go.Ab
variable {e least n : Int} {es : List Arc}
def okL {α : Type} (e : Int) (xs : List α) : List α := if e = 0 then xs else []
def okI (e x : Int) : Int := if e = 0 then x else 0
theorem okI_ok (x : Int) (h : e = 0) : okI e x = x := by rw [okI, if_pos h]
theorem okL_no {α : Type} (xs : List α) (h : e ≠ 0) : okL e xs = [] := by rw [okL, if_neg h]
theorem okI_no (x : Int) (h : e ≠ 0) : okI e x = 0 := by rw [okI, if_neg h]
def arcsErr (n least : Int) : List Arc → Int
 | [] => 0
 | a :: r => if a.src < 0 ∨ n ≤ a.src ∨ a.dst < 0 ∨ n ≤ a.dst then 4 else if a.cap < least ∨ 10000 < a.cap then 1 else arcsErr n least r
def graphErr (n : Int) (es : List Arc) (least : Int) : Int := if n < 1 ∨ 12 < n then 1 else if 60 < es.length then 2 else arcsErr n least es
def netErr (n s t : Int) (es : List Arc) : Int :=
 if graphErr n es 0 ≠ 0 then graphErr n es 0 else if s < 0 ∨ n ≤ s ∨ t < 0 ∨ n ≤ t then 4 else if s = t then 3 else 0
def ArcOk (n least : Int) (a : Arc) : Prop := 0 ≤ a.src ∧ a.src < n ∧ 0 ≤ a.dst ∧ a.dst < n ∧ least ≤ a.cap ∧ a.cap ≤ 10000
theorem arcsErr_zero : ∀ {es : List Arc}, arcsErr n least es = 0 → ∀ a ∈ es, ArcOk n least a
 | [], _, a, ha => by cases ha
 | b :: r, h, a, ha => by
  unfold arcsErr at h
  split at h
  ·cases h
  ·split at h
   ·cases h
   ·rename_i h1 h2
    rcases List.mem_cons.1 ha with rfl | ha
    ·exact ⟨by omega, by omega, by omega, by omega, by omega, by omega⟩
    ·exact arcsErr_zero h a ha
structure GOk (n : Int) (es : List Arc) (least : Int) : Prop where
 n1 : 1 ≤ n
 n2 : n ≤ 12
 len : es.length ≤ 60
 arc : ∀ a ∈ es, ArcOk n least a
theorem graphErr_ok (h : graphErr n es least = 0) : GOk n es least := by
 unfold graphErr at h
 split at h
 ·cases h
 ·split at h
  ·cases h
  ·exact ⟨by omega, by omega, by omega, arcsErr_zero h⟩
theorem GOk.at_ (h : GOk n es least) {i : Nat} (hi : i < es.length) : ArcOk n least (es.getD i default) := h.arc _ (getD_mem hi)
structure NOk (n s t : Int) (es : List Arc) : Prop extends GOk n es 0 where
 s0 : 0 ≤ s
 s1 : s < n
 t0 : 0 ≤ t
 t1 : t < n
 ne : s ≠ t
theorem netErr_ok {s t : Int} (h : netErr n s t es = 0) : NOk n s t es := by
 unfold netErr at h
 split at h
 ·rename_i h1; exact absurd h h1
 ·rename_i h1
  have hg := graphErr_ok (Decidable.not_not.1 h1)
  split at h
  ·cases h
  ·split at h
   ·cases h
   ·exact ⟨hg, by omega, by omega, by omega, by omega, by omega⟩
theorem arcsErr_of : ∀ {es : List Arc}, (∀ a ∈ es, ArcOk n least a) → arcsErr n least es = 0
 | [], _ => rfl
 | b :: r, h => by
  obtain ⟨h1, h2, h3, h4, h5, h6⟩ := h b List.mem_cons_self
  unfold arcsErr
  rw [if_neg (by omega), if_neg (by omega)]
  exact arcsErr_of fun a ha => h a (List.mem_cons_of_mem _ ha)
theorem GOk.err (h : GOk n es least) : graphErr n es least = 0 := by
 have h1 := h.n1; have h2 := h.n2; have h3 := h.len
 unfold graphErr
 rw [if_neg (by omega), if_neg (by omega)]
 exact arcsErr_of h.arc
theorem NOk.err {s t : Int} (h : NOk n s t es) : netErr n s t es = 0 := by
 have h1 := h.s0; have h2 := h.s1; have h3 := h.t0; have h4 := h.t1
 unfold netErr
 rw [h.toGOk.err, if_neg (by simp), if_neg (by omega), if_neg h.ne]
end Go.Ab
namespace Go.Ab
def without (es : List Arc) (k : Int) : List Arc := es.take k.toNat ++ es.drop (k.toNat + 1)
end Go.Ab
namespace Go.Ab
end Go.Ab
namespace Go.Ab
def idxOf {α : Type} (p : α → Bool) : List α → Int
 | [] => -1
 | x :: r => if p x then 0 else if idxOf p r < 0 then -1 else idxOf p r + 1
theorem idxOf_ge {α : Type} {p : α → Bool} : ∀ {l : List α}, -1 ≤ idxOf p l ∧ idxOf p l < l.length
 | [] => by simp [idxOf]
 | x :: r => by
  have := idxOf_ge (p := p) (l := r)
  simp only [idxOf, List.length_cons]
  split
  ·omega
  ·split <;> omega
theorem idxOf_at {α : Type} {p : α → Bool} {d : α} : ∀ {l : List α} {i : Nat}, (∀ j, j < i → p (l.getD j d) = false) → i < l.length → p (l.getD i d) = true → idxOf p l = i
 | [], _, _, h, _ => by simp at h
 | x :: r, 0, _, _, h => by
  simp only [List.getD_cons_zero] at h
  simp only [idxOf, h, if_true]; rfl
 | x :: r, i + 1, h, hi, ht => by
  have h0 := h 0 (by omega)
  simp only [List.getD_cons_zero] at h0
  have hr := idxOf_at (p := p) (d := d) (l := r) (i := i) (fun j hj => by simpa using h (j + 1) (by omega)) (by simpa using hi) (by simpa using ht)
  simp only [idxOf, h0, hr]
  rw [if_neg (by simp), if_neg (by omega)]; omega
theorem idxOf_none {α : Type} {p : α → Bool} {d : α} : ∀ {l : List α}, (∀ j, j < l.length → p (l.getD j d) = false) → idxOf p l = -1
 | [], _ => rfl
 | x :: r, h => by
  have h0 := h 0 (by simp)
  simp only [List.getD_cons_zero] at h0
  have hr := idxOf_none (p := p) (d := d) (l := r) (fun j hj => by simpa using h (j + 1) (by simpa using hj))
  simp only [idxOf, h0, hr]; rfl
end Go.Ab
namespace Go.Ab
variable {i : Nat} {f : List Int} {es : List Arc}
def gone : List Arc → List Int → Int → Int
 | a :: r, x :: q, v => (if a.src = v then x else 0) - (if a.dst = v then x else 0) + gone r q v
 | _, _, _ => 0
theorem gone_drop (v : Int) (h1 : i < es.length) (h2 : f.length = es.length) :
  gone (es.drop i) (f.drop i) v = (if (es.getD i default).src = v then f.getD i 0 else 0) - (if (es.getD i default).dst = v then f.getD i 0 else 0) + gone (es.drop (i + 1)) (f.drop (i + 1)) v := by
 rw [drop_getD es default i h1, drop_getD f 0 i (by omega)]
 rfl
theorem gone_end (v : Int) (h : es.length ≤ i) : gone (es.drop i) (f.drop i) v = 0 := by
 rw [List.drop_of_length_le h]; rfl
def over : List Arc → List Int → Bool
 | a :: r, x :: q => decide (x < 0) || decide (a.cap < x) || over r q
 | _, _ => false
theorem over_drop (h1 : i < es.length) (h2 : f.length = es.length) :
  over (es.drop i) (f.drop i) = (decide (f.getD i 0 < 0) || decide ((es.getD i default).cap < f.getD i 0) || over (es.drop (i + 1)) (f.drop (i + 1))) := by
 rw [drop_getD es default i h1, drop_getD f 0 i (by omega)]
 rfl
theorem over_end (h : es.length ≤ i) : over (es.drop i) (f.drop i) = false := by
 rw [List.drop_of_length_le h]; rfl
def lost (n s t : Int) (es : List Arc) (f : List Int) : Prop := ∃ k, k < n.toNat ∧ (k : Int) ≠ s ∧ (k : Int) ≠ t ∧ gone es f (k : Int) ≠ 0
instance (n s t : Int) (es : List Arc) (f : List Int) : Decidable (lost n s t es f) := by unfold lost; infer_instance
def flowErr (n s t : Int) (es : List Arc) (f : List Int) : Int :=
 if netErr n s t es ≠ 0 then netErr n s t es else if f.length ≠ es.length then 3 else if over es f = true then 7 else if lost n s t es f then 8 else 0
structure FIn (es : List Arc) (f : List Int) : Prop where
 len : f.length = es.length
 at_ : ∀ k, k < es.length → 0 ≤ f.getD k 0 ∧ f.getD k 0 ≤ (es.getD k default).cap
theorem over_in : ∀ {es : List Arc} {f : List Int}, f.length = es.length → over es f = false → FIn es f
 | [], f, h, _ => ⟨h, fun k hk => by simp at hk⟩
 | a :: r, [], h, _ => by simp at h
 | a :: r, x :: q, h, ho => by
  simp only [over, Bool.or_eq_false_iff, decide_eq_false_iff_not] at ho
  have hr := over_in (by simpa using h) ho.2
  refine ⟨h, fun k hk => ?_⟩
  cases k with
  | zero => simp only [List.getD_cons_zero]; omega
  | succ k => simp only [List.getD_cons_succ]; exact hr.at_ k (by simpa using hk)
theorem gone_far {n : Int} {v : Int} (h : ∀ a ∈ es, 0 ≤ a.src ∧ a.src < n ∧ 0 ≤ a.dst ∧ a.dst < n) (hv : n ≤ v) : gone es f v = 0 := by
 induction es generalizing f with
 | nil => rfl
 | cons a r ih =>
  cases f with
  | nil => rfl
  | cons x q =>
   have ha := h a List.mem_cons_self
   have := ih (f := q) (fun b hb => h b (List.mem_cons_of_mem _ hb))
   simp only [gone, this]
   rw [if_neg (by omega), if_neg (by omega)]; rfl
end Go.Ab
namespace Go.Ab
variable {n s t : Int} {f : List Int} {es : List Arc}
theorem getD_zeros (k n : Nat) : (List.replicate n (0 : Int)).getD k 0 = 0 := by
 rw [List.getD_eq_getElem?_getD, List.getElem?_replicate]
 split <;> rfl
theorem getD_zeros12 (k : Nat) : ([0, 0, 0, 0, 0, 0, 0, 0, 0, 0, 0, 0] : List Int).getD k 0 = 0 := getD_zeros k 12
theorem arr12 (m : List Int) (h : m.length = 12) : [m.getD 0 0, m.getD 1 0, m.getD 2 0, m.getD 3 0, m.getD 4 0, m.getD 5 0, m.getD 6 0, m.getD 7 0, m.getD 8 0, m.getD 9 0, m.getD 10 0, m.getD 11 0] = m := by
 match m, h with
 | [_, _, _, _, _, _, _, _, _, _, _, _], _ => rfl
theorem set2_get (m : List Int) (a b k : Nat) (u w : Int) (ha : a < m.length) (hb : b < m.length) : ((m.set a u).set b w).getD k 0 = if k = b then w else if k = a then u else m.getD k 0 := by
 by_cases h1 : k = b
 ·subst h1; rw [if_pos rfl, getD_set_self _ _ _ _ (by simpa using hb)]
 ·rw [if_neg h1, getD_set_ne _ _ _ _ _ (Ne.symm h1)]
  by_cases h2 : k = a
  ·subst h2; rw [if_pos rfl, getD_set_self _ _ _ _ ha]
  ·rw [if_neg h2, getD_set_ne _ _ _ _ _ (Ne.symm h2)]
theorem set1_get (m : List Int) (a k : Nat) (u : Int) (ha : a < m.length) : (m.set a u).getD k 0 = if k = a then u else m.getD k 0 := by
 by_cases h2 : k = a
 ·subst h2; rw [if_pos rfl, getD_set_self _ _ _ _ ha]
 ·rw [if_neg h2, getD_set_ne _ _ _ _ _ (Ne.symm h2)]
theorem check_step {m : List Int} {i : Nat} (hm : m.length = 12) (h12 : n ≤ 12) (hlen : f.length = es.length) (hi : i < es.length)
  (a1 : 0 ≤ (es.getD i default).src) (a2 : (es.getD i default).src < n) (a3 : 0 ≤ (es.getD i default).dst) (a4 : (es.getD i default).dst < n)
  (hg : ∀ k, k < 12 → m.getD k 0 = gone (es.drop i) (f.drop i) (k : Int) - gone es f (k : Int)) (k : Nat) (hk : k < 12) :
  ((m.set (es.getD i default).src.toNat (m.getD (es.getD i default).src.toNat 0 - f.getD i 0)).set (es.getD i default).dst.toNat
   ((m.set (es.getD i default).src.toNat (m.getD (es.getD i default).src.toNat 0 - f.getD i 0)).getD (es.getD i default).dst.toNat 0 + f.getD i 0)).getD k 0 = gone (es.drop (i + 1)) (f.drop (i + 1)) (k : Int) - gone es f (k : Int) := by
 have h0 := hg k hk
 rw [gone_drop (k : Int) hi hlen] at h0
 rw [set2_get _ _ _ _ _ _ (by omega) (by omega), set1_get _ _ _ _ (by omega)]
 generalize hs : (es.getD i default).src = a at *
 generalize hd : (es.getD i default).dst = b at *
 by_cases e1 : k = b.toNat
 ·rw [if_pos e1]
  rw [if_pos (show b = (k : Int) by omega)] at h0
  by_cases e2 : b.toNat = a.toNat
  ·rw [if_pos e2]
   rw [if_pos (show a = (k : Int) by omega)] at h0
   rw [show a.toNat = k by omega]
   omega
  ·rw [if_neg e2]
   rw [if_neg (show ¬ a = (k : Int) by omega)] at h0
   rw [show b.toNat = k by omega]
   omega
 ·rw [if_neg e1]
  rw [if_neg (show ¬ b = (k : Int) by omega)] at h0
  by_cases e2 : k = a.toNat
  ·rw [if_pos e2]
   rw [if_pos (show a = (k : Int) by omega)] at h0
   rw [show a.toNat = k by omega]
   omega
  ·rw [if_neg e2]
   rw [if_neg (show ¬ a = (k : Int) by omega)] at h0
   omega
theorem check_bound {m : List Int} {i : Nat} {x a b : Int} (hm : m.length = 12) (a1 : 0 ≤ a) (a2 : a < 12) (a3 : 0 ≤ b) (a4 : b < 12) (x0 : 0 ≤ x) (x1 : x ≤ 10000) (hb : ∀ k, -(10000 * (i : Int)) ≤ m.getD k 0 ∧ m.getD k 0 ≤ 10000 * (i : Int)) (k : Nat) :
  -(10000 * ((i + 1 : Nat) : Int)) ≤ ((m.set a.toNat (m.getD a.toNat 0 - x)).set b.toNat ((m.set a.toNat (m.getD a.toNat 0 - x)).getD b.toNat 0 + x)).getD k 0 ∧
  ((m.set a.toNat (m.getD a.toNat 0 - x)).set b.toNat ((m.set a.toNat (m.getD a.toNat 0 - x)).getD b.toNat 0 + x)).getD k 0 ≤ 10000 * ((i + 1 : Nat) : Int) := by
 rw [set2_get _ _ _ _ _ _ (by omega) (by omega), set1_get _ _ _ _ (by omega)]
 have h1 := hb k
 have h2 := hb a.toNat
 have h3 := hb b.toNat
 split
 ·split <;> omega
 ·split <;> omega
theorem lost_far (h : NOk n s t es) {k : Nat} (hk : gone es f (k : Int) ≠ 0) (hs : (k : Int) ≠ s) (ht : (k : Int) ≠ t) : lost n s t es f := by
 refine ⟨k, ?_, hs, ht, hk⟩
 rcases Int.lt_or_le (k : Int) n with h1 | h1
 ·omega
 ·exact absurd (gone_far (fun a ha => ⟨(h.arc a ha).1, (h.arc a ha).2.1, (h.arc a ha).2.2.1, (h.arc a ha).2.2.2.1⟩) h1) hk
structure FlOk (n s t : Int) (es : List Arc) (f : List Int) : Prop where
 net : NOk n s t es
 fin : FIn es f
 kept : ∀ k : Nat, (k : Int) ≠ s → (k : Int) ≠ t → gone es f (k : Int) = 0
theorem FlOk.f10 (h : FlOk n s t es f) (k : Nat) (hk : k < es.length) : 0 ≤ f.getD k 0 ∧ f.getD k 0 ≤ 10000 := by
 have h1 := h.fin.at_ k hk
 obtain ⟨_, _, _, _, _, h2⟩ := h.net.at_ hk
 omega
theorem flowErr_ok (h : flowErr n s t es f = 0) : FlOk n s t es f := by
 unfold flowErr at h
 split at h
 ·rename_i h1; exact absurd h h1
 ·rename_i h1
  have hn := netErr_ok (Decidable.not_not.1 h1)
  split at h
  ·cases h
  ·rename_i h2
   split at h
   ·cases h
   ·rename_i h3
    split at h
    ·cases h
    ·rename_i h4
     refine ⟨hn, over_in (Decidable.not_not.1 h2) (by simpa using h3), fun k hs ht => ?_⟩
     cases Int.decEq (gone es f (k : Int)) 0 with
     | isTrue h => exact h
     | isFalse h => exact absurd (lost_far hn h hs ht) h4
theorem flowErr_of (h : FlOk n s t es f) (hn : netErr n s t es = 0) : flowErr n s t es f = 0 := by
 unfold flowErr
 rw [if_neg (by omega), if_neg (by have := h.fin.len; omega), if_neg ?_, if_neg ?_]
 ·rintro ⟨k, _, h1, h2, h3⟩
  exact h3 (h.kept k h1 h2)
 ·intro ho
  have : ∀ {es : List Arc} {f : List Int}, FIn es f → over es f = false := by
   intro es
   induction es with
   | nil => intro f _; rfl
   | cons a r ih =>
    intro f hf
    cases f with
    | nil => rfl
    | cons x q =>
     have h0 := hf.at_ 0 (by simp)
     simp only [List.getD_cons_zero] at h0
     simp only [over, Bool.or_eq_false_iff, decide_eq_false_iff_not]
     refine ⟨⟨by omega, by omega⟩, ih ⟨by have := hf.len; simpa using this, fun k hk => ?_⟩⟩
     have := hf.at_ (k + 1) (by simpa using hk)
     simpa using this
  rw [this h.fin] at ho; cases ho
end Go.Ab
namespace Go.Ab
variable {σ : Int} {es : List Arc}
def bit (σ v : Int) : Int := iand (σ / 2 ^ v.toNat) 1
theorem bit_01 (v : Int) (_h : 0 ≤ σ) : bit σ v = 0 ∨ bit σ v = 1 := by
 unfold bit iand
 have : ((σ / 2 ^ v.toNat).toNat &&& (1 : Int).toNat) = (σ / 2 ^ v.toNat).toNat % 2 := Nat.and_one_is_mod _
 rw [this]
 omega
theorem shr_in (v : Int) (h0 : 0 ≤ σ) (h1 : σ ≤ 65535) : 0 ≤ σ / 2 ^ v.toNat ∧ σ / 2 ^ v.toNat ≤ 65535 := by
 have hp : (0 : Int) < 2 ^ v.toNat := Int.pow_pos (by decide)
 refine ⟨Int.ediv_nonneg h0 (Int.le_of_lt hp), ?_⟩
 have := Int.ediv_le_self (2 ^ v.toNat) h0
 omega
def capOf : List Arc → Int → Int
 | [], _ => 0
 | a :: r, σ => a.cap * bit σ a.src * (1 - bit σ a.dst) + capOf r σ
theorem capOf_drop {i : Nat} (h : i < es.length) : capOf (es.drop i) σ = (es.getD i default).cap * bit σ (es.getD i default).src * (1 - bit σ (es.getD i default).dst) + capOf (es.drop (i + 1)) σ := by
 rw [drop_getD es default i h]; rfl
theorem capOf_end {i : Nat} (σ : Int) (h : es.length ≤ i) : capOf (es.drop i) σ = 0 := by
 rw [List.drop_of_length_le h]; rfl
theorem part_in {c b : Int} (h0 : 0 ≤ c) (h1 : c ≤ 10000) (hb : b = 0 ∨ b = 1) : 0 ≤ c * b ∧ c * b ≤ 10000 := by
 rcases hb with rfl | rfl
 ·simp
 ·simp; omega
theorem part_in2 {c b d : Int} (h0 : 0 ≤ c) (h1 : c ≤ 10000) (hb : b = 0 ∨ b = 1) (hd : d = 0 ∨ d = 1) : 0 ≤ c * b * (1 - d) ∧ c * b * (1 - d) ≤ 10000 := by
 rcases hb with rfl | rfl <;> rcases hd with rfl | rfl <;> simp <;> omega
theorem capOf_in {n : Int} {z : Int} (hg : GOk n es 0) (hz : 0 ≤ z) : 0 ≤ capOf es z ∧ capOf es z ≤ 600000 := by
 have key : ∀ (r : List Arc), (∀ a ∈ r, 0 ≤ a.cap ∧ a.cap ≤ 10000) → 0 ≤ capOf r z ∧ capOf r z ≤ 10000 * (r.length : Int) := by
  intro r
  induction r with
  | nil => intro _; simp [capOf]
  | cons a r ih =>
   intro h
   have h1 := ih (fun b hb => h b (List.mem_cons_of_mem _ hb))
   have h2 := h a List.mem_cons_self
   have h3 := part_in2 h2.1 h2.2 (bit_01 a.src hz) (bit_01 a.dst hz)
   simp only [capOf, List.length_cons]
   omega
 have := key es (fun a ha => ⟨(hg.arc a ha).2.2.2.2.1, (hg.arc a ha).2.2.2.2.2⟩)
 have := hg.len
 omega
def pstep (s t : Int) (es : List Arc) (x : Int × Int × Int) (z : Int) : Int × Int × Int :=
 if bit z s = 0 ∨ bit z t = 1 then x else
  if x.1 < 0 ∨ capOf es z < x.1 then (capOf es z, z, z) else if capOf es z = x.1 then (x.1, iand x.2.1 z, ior x.2.2 z) else x
def parted (n s t : Int) (es : List Arc) : Int × Int × Int := (List.range (2 ^ n.toNat)).foldl (fun x (k : Nat) => pstep s t es x (k : Int)) (-1, 0, 0)
theorem pow_le12 {n : Nat} (h : n ≤ 12) : 2 ^ n ≤ 4096 := Nat.pow_le_pow_right (by decide) h
theorem iand_in {x y : Int} (_hx : 0 ≤ x) (_hx1 : x ≤ 65535) (_hy : 0 ≤ y) (_hy1 : y ≤ 65535) : 0 ≤ iand x y ∧ iand x y ≤ 65535 := by
 unfold iand
 have := Nat.and_le_left (n := x.toNat) (m := y.toNat)
 omega
theorem ior_in {x y : Int} (_hx : 0 ≤ x) (_hx1 : x ≤ 65535) (_hy : 0 ≤ y) (_hy1 : y ≤ 65535) : 0 ≤ ior x y ∧ ior x y ≤ 65535 := by
 unfold ior
 have := Nat.or_lt_two_pow (x := x.toNat) (y := y.toNat) (n := 16) (by omega) (by omega)
 omega
end Go.Ab
namespace Go.Ab
def sorted (zs : List Int) : List Int := zs.mergeSort fun x y => decide (x ≤ y)
def isFull (n : Nat) (l : List Int) : Prop := l.length = n ∧ ∀ k, k < n → ((k : Nat) : Int) ∈ l
end Go.Ab
namespace Go.Ab
variable {g : Int → Int} {n s t z : Int} {f : List Int} {es : List Arc}
def sideGone : List Arc → List Int → Int → Int
 | a :: r, x :: q, z => x * (bit z a.src - bit z a.dst) + sideGone r q z
 | _, _, _ => 0
def nodeSum (g : Int → Int) : Nat → Nat → Int
 | _, 0 => 0
 | k, m + 1 => g (k : Int) + nodeSum g (k + 1) m
theorem nodeSum_congr {h : Int → Int} : ∀ {m k : Nat}, (∀ j : Nat, k ≤ j → j < k + m → g (j : Int) = h (j : Int)) → nodeSum g k m = nodeSum h k m
 | 0, _, _ => rfl
 | m + 1, k, e => by
  unfold nodeSum
  rw [e k (Nat.le_refl _) (by omega), nodeSum_congr (m := m) (k := k + 1) (fun j h1 h2 => e j (by omega) (by omega))]
theorem nodeSum_add (g h : Int → Int) : ∀ (m k : Nat), nodeSum (fun v => g v + h v) k m = nodeSum g k m + nodeSum h k m
 | 0, _ => rfl
 | m + 1, k => by
  unfold nodeSum
  rw [nodeSum_add g h m (k + 1)]; omega
theorem nodeSum_zero {m k : Nat} (h : ∀ j : Nat, k ≤ j → j < k + m → g (j : Int) = 0) : nodeSum g k m = 0 := by
 have : nodeSum g k m = nodeSum (fun _ => 0) k m := nodeSum_congr h
 rw [this]
 clear this h
 induction m generalizing k with
 | zero => rfl
 | succ m ih => unfold nodeSum; rw [ih]; rfl
theorem nodeSum_one {v : Int} : ∀ {m k : Nat}, (k : Int) ≤ v → v < (k + m : Nat) → (∀ j : Nat, k ≤ j → j < k + m → (j : Int) ≠ v → g (j : Int) = 0) → nodeSum g k m = g v
 | 0, k, h1, h2, _ => by omega
 | m + 1, k, h1, h2, h => by
  unfold nodeSum
  by_cases hk : (k : Int) = v
  ·rw [nodeSum_zero (fun j hj hj2 => h j (by omega) (by omega) (by omega)), hk]; omega
  ·rw [nodeSum_one (m := m) (k := k + 1) (by omega) (by omega) (fun j hj hj2 hn => h j (by omega) (by omega) hn), h k (Nat.le_refl _) (by omega) hk]; omega
theorem side_nodes (h12 : n ≤ 12) (h : ∀ a ∈ es, 0 ≤ a.src ∧ a.src < n ∧ 0 ≤ a.dst ∧ a.dst < n) : sideGone es f z = nodeSum (fun v => bit z v * gone es f v) 0 12 := by
 induction es generalizing f with
 | nil => exact (nodeSum_zero (fun j _ _ => by simp [gone])).symm
 | cons a r ih =>
  cases f with
  | nil => exact (nodeSum_zero (fun j _ _ => by simp [gone])).symm
  | cons x q =>
   have ha := h a List.mem_cons_self
   have e1 : nodeSum (fun v => bit z v * gone (a :: r) (x :: q) v) 0 12 = nodeSum (fun v => (bit z v * (if a.src = v then x else 0) + bit z v * (- (if a.dst = v then x else 0))) + bit z v * gone r q v) 0 12 :=
    nodeSum_congr fun j _ _ => by
     simp only [gone]
     rw [← Int.mul_add, ← Int.mul_add]
     congr 1
   rw [e1, nodeSum_add, nodeSum_add, ← ih (fun b hb => h b (List.mem_cons_of_mem _ hb))]
   rw [nodeSum_one (v := a.src) (m := 12) (k := 0) (by omega) (by omega) (fun j _ _ hj => by rw [if_neg (fun e => hj e.symm), Int.mul_zero])]
   rw [nodeSum_one (v := a.dst) (m := 12) (k := 0) (by omega) (by omega) (fun j _ _ hj => by rw [if_neg (fun e => hj e.symm)]; simp)]
   rw [if_pos rfl, if_pos rfl]
   simp only [sideGone]
   rw [Int.mul_sub, Int.mul_comm x, Int.mul_comm x, Int.mul_neg]
   omega
def Parts (n s t z : Int) : Prop := 0 ≤ z ∧ z < ((2 ^ n.toNat : Nat) : Int) ∧ bit z s = 1 ∧ bit z t = 0
theorem side_value (h : FlOk n s t es f) (hz : Parts n s t z) : sideGone es f z = gone es f s := by
 have hok := h.net
 have h4 := hok.s0
 have h5 := hok.s1
 have h2 := hok.n2
 rw [side_nodes hok.n2 (fun a ha => ⟨(hok.arc a ha).1, (hok.arc a ha).2.1, (hok.arc a ha).2.2.1, (hok.arc a ha).2.2.2.1⟩)]
 rw [nodeSum_one (v := s) (m := 12) (k := 0) (by omega) (by omega) (fun j _ _ hj => by
  by_cases hjt : (j : Int) = t
  ·rw [hjt, hz.2.2.2, Int.zero_mul]
  ·rw [h.kept j hj hjt, Int.mul_zero])]
 rw [hz.2.2.1, Int.one_mul]
theorem side_le (hz : 0 ≤ z) (h : FIn es f) : sideGone es f z ≤ capOf es z := by
 induction es generalizing f with
 | nil => simp [sideGone, capOf]
 | cons a r ih =>
  cases f with
  | nil => have := h.len; simp at this
  | cons x q =>
   have h0 := h.at_ 0 (by simp)
   simp only [List.getD_cons_zero] at h0
   have hr := ih (f := q) ⟨by have := h.len; simpa using this, fun k hk => by have := h.at_ (k + 1) (by simpa using hk); simpa using this⟩
   simp only [sideGone, capOf]
   have : x * (bit z a.src - bit z a.dst) ≤ a.cap * bit z a.src * (1 - bit z a.dst) := by
    rcases bit_01 a.src hz with h1 | h1 <;> rcases bit_01 a.dst hz with h2 | h2 <;> rw [h1, h2] <;> simp <;> omega
   omega
def Shut (es : List Arc) (f : List Int) (z : Int) : Prop := ∀ k, k < es.length →
 (bit z (es.getD k default).src = 1 → bit z (es.getD k default).dst = 0 → f.getD k 0 = (es.getD k default).cap) ∧ (bit z (es.getD k default).src = 0 → bit z (es.getD k default).dst = 1 → f.getD k 0 = 0)
theorem side_eq (hz : 0 ≤ z) (hl : f.length = es.length) (h : Shut es f z) : sideGone es f z = capOf es z := by
 induction es generalizing f with
 | nil => simp [sideGone, capOf]
 | cons a r ih =>
  cases f with
  | nil => simp at hl
  | cons x q =>
   have h0 := h 0 (by simp)
   simp only [List.getD_cons_zero] at h0
   have hr := ih (f := q) (by simpa using hl) (fun k hk => by have := h (k + 1) (by simpa using hk); simpa using this)
   simp only [sideGone, capOf]
   have : x * (bit z a.src - bit z a.dst) = a.cap * bit z a.src * (1 - bit z a.dst) := by
    rcases bit_01 a.src hz with h1 | h1 <;> rcases bit_01 a.dst hz with h2 | h2
    ·rw [h1, h2]; simp
    ·rw [h0.2 h1 h2]; simp [h1, h2]
    ·rw [h0.1 h1 h2, h1, h2]; simp
    ·rw [h1, h2]; simp
   omega
theorem pstep_skip {x : Int × Int × Int} (h : ¬ (bit z s = 1 ∧ bit z t = 0)) (hz : 0 ≤ z) : pstep s t es x z = x := by
 unfold pstep
 rw [if_pos]
 rcases bit_01 s hz with h1 | h1 <;> rcases bit_01 t hz with h2 | h2
 ·exact .inl h1
 ·exact .inl h1
 ·exact absurd ⟨h1, h2⟩ h
 ·exact .inr h2
theorem parted_fold (hg : GOk n es 0) : ∀ i : Nat,
  ((List.range i).foldl (fun x (k : Nat) => pstep s t es x (k : Int)) (-1, 0, 0)).1 = -1 ∧ (∀ k : Nat, k < i → ¬ (bit (k : Int) s = 1 ∧ bit (k : Int) t = 0)) ∨
  (∃ k : Nat, k < i ∧ bit (k : Int) s = 1 ∧ bit (k : Int) t = 0 ∧ ((List.range i).foldl (fun x (k : Nat) => pstep s t es x (k : Int)) (-1, 0, 0)).1 = capOf es (k : Int)) ∧
  (∀ k : Nat, k < i → bit (k : Int) s = 1 → bit (k : Int) t = 0 → ((List.range i).foldl (fun x (k : Nat) => pstep s t es x (k : Int)) (-1, 0, 0)).1 ≤ capOf es (k : Int)) := by
 intro i
 induction i with
 | zero => exact .inl ⟨rfl, fun k hk => by omega⟩
 | succ i ih =>
  rw [List.range_succ, List.foldl_append]
  simp only [List.foldl_cons, List.foldl_nil]
  generalize hx : (List.range i).foldl (fun x (k : Nat) => pstep s t es x (k : Int)) (-1, 0, 0) = x at ih
  have hi0 : (0 : Int) ≤ (i : Int) := by omega
  by_cases hv : bit (i : Int) s = 1 ∧ bit (i : Int) t = 0
  ·have hc := capOf_in hg hi0
   have hst : pstep s t es x (i : Int) = if x.1 < 0 ∨ capOf es (i : Int) < x.1 then (capOf es (i : Int), (i : Int), (i : Int)) else if capOf es (i : Int) = x.1 then (x.1, iand x.2.1 (i : Int), ior x.2.2 (i : Int)) else x := by
    rw [pstep, if_neg (by omega)]
   rw [hst]
   rcases ih with ⟨h1, h2⟩ | ⟨⟨k, k1, k2, k3, k4⟩, h2⟩
   ·rw [if_pos (by omega)]
    refine .inr ⟨⟨i, by omega, hv.1, hv.2, rfl⟩, fun k hk hs ht => ?_⟩
    rcases Nat.lt_succ_iff_lt_or_eq.1 hk with h | h
    ·exact absurd ⟨hs, ht⟩ (h2 k h)
    ·subst h; exact Int.le_refl _
   ·have hk0 := capOf_in hg (z := (k : Int)) (by omega)
    by_cases hlt : capOf es (i : Int) < x.1
    ·rw [if_pos (.inr hlt)]
     refine .inr ⟨⟨i, by omega, hv.1, hv.2, rfl⟩, fun k' hk' hs ht => ?_⟩
     rcases Nat.lt_succ_iff_lt_or_eq.1 hk' with h | h
     ·have := h2 k' h hs ht; show capOf es (i : Int) ≤ _; omega
     ·subst h; exact Int.le_refl _
    ·rw [if_neg (by omega)]
     have hfst : (if capOf es (i : Int) = x.1 then (x.1, iand x.2.1 (i : Int), ior x.2.2 (i : Int)) else x).1 = x.1 := by split <;> rfl
     rw [hfst]
     refine .inr ⟨⟨k, by omega, k2, k3, k4⟩, fun k' hk' hs ht => ?_⟩
     rcases Nat.lt_succ_iff_lt_or_eq.1 hk' with h | h
     ·exact h2 k' h hs ht
     ·subst h; omega
  ·rw [pstep_skip hv hi0]
   rcases ih with ⟨h1, h2⟩ | ⟨⟨k, k1, k2, k3, k4⟩, h2⟩
   ·refine .inl ⟨h1, fun k hk => ?_⟩
    rcases Nat.lt_succ_iff_lt_or_eq.1 hk with h | h
    ·exact h2 k h
    ·subst h; exact hv
   ·refine .inr ⟨⟨k, by omega, k2, k3, k4⟩, fun k' hk' hs ht => ?_⟩
    rcases Nat.lt_succ_iff_lt_or_eq.1 hk' with h | h
    ·exact h2 k' h hs ht
    ·subst h; exact absurd ⟨hs, ht⟩ hv
theorem greatest (h : FlOk n s t es f) (hz : Parts n s t z) (hs : Shut es f z) : gone es f s = (parted n s t es).1 := by
 have hg := h.net.toGOk
 have e1 : gone es f s = capOf es z := by rw [← side_value h hz, side_eq hz.1 h.fin.len hs]
 obtain ⟨z0, z1, z2, z3⟩ := hz
 have hzn : ((z.toNat : Nat) : Int) = z := by omega
 rcases parted_fold (s := s) (t := t) hg (2 ^ n.toNat) with ⟨_, h2⟩ | ⟨⟨k, k1, k2, k3, k4⟩, h2⟩
 ·exact absurd (by rw [hzn]; exact ⟨z2, z3⟩) (h2 z.toNat (by omega))
 ·have h3 := h2 z.toNat (by omega) (by rw [hzn]; exact z2) (by rw [hzn]; exact z3)
  rw [hzn] at h3
  have h4 : gone es f s ≤ capOf es (k : Int) := by
   rw [← side_value h ⟨by omega, by omega, k2, k3⟩]
   exact side_le (by omega) h.fin
  unfold parted
  rw [← k4] at h4
  omega
end Go.Ab
namespace Go.Ab
variable {a b z : Int} {v : Nat}
def has (z : Int) (v : Nat) : Bool := z.toNat.testBit v
theorem bit_has (v : Int) (h : 0 ≤ z) : bit z v = if has z v.toNat then 1 else 0 := by
 unfold bit iand has
 have h1 : (z / 2 ^ v.toNat).toNat = z.toNat / 2 ^ v.toNat := by
  obtain ⟨m, rfl⟩ := Int.eq_ofNat_of_zero_le h
  have h4 : ((2 ^ v.toNat : Nat) : Int) = (2 : Int) ^ v.toNat := by norm_cast
  rw [← h4]
  norm_cast
 rw [h1, ← Nat.shiftRight_eq_div_pow]
 have h2 : ((z.toNat >>> v.toNat) &&& (1 : Int).toNat) = (z.toNat >>> v.toNat) % 2 := Nat.and_one_is_mod _
 rw [h2, Nat.testBit, Nat.one_and_eq_mod_two]
 have h3 : z.toNat >>> v.toNat % 2 = 0 ∨ z.toNat >>> v.toNat % 2 = 1 := by omega
 rcases h3 with h3 | h3 <;> rw [h3] <;> rfl
theorem bit_yes {v : Int} (h : 0 ≤ z) : bit z v = 1 ↔ has z v.toNat = true := by
 rw [bit_has v h]; cases has z v.toNat <;> simp
theorem bit_no {v : Int} (h : 0 ≤ z) : bit z v = 0 ↔ has z v.toNat = false := by
 rw [bit_has v h]; cases has z v.toNat <;> simp
theorem has_ior : has (ior a b) v = (has a v || has b v) := by
 unfold has ior; rw [Int.toNat_natCast, Nat.testBit_or]
theorem has_iand : has (iand a b) v = (has a v && has b v) := by
 unfold has iand; rw [Int.toNat_natCast, Nat.testBit_and]
theorem pow_nat (k : Nat) : ((2 : Int) ^ k) = ((2 ^ k : Nat) : Int) := by norm_cast
theorem has_pow {k : Nat} : has (1 * 2 ^ k) v = decide (k = v) := by
 unfold has; rw [Int.one_mul, pow_nat, Int.toNat_natCast, Nat.testBit_two_pow]
theorem side_ext (ha : 0 ≤ a) (hb : 0 ≤ b) (h : ∀ v, has a v = has b v) : a = b := by
 have : a.toNat = b.toNat := Nat.eq_of_testBit_eq h
 omega
theorem has_lt {n : Nat} (_h0 : 0 ≤ z) (h1 : z < ((2 ^ n : Nat) : Int)) (hv : n ≤ v) : has z v = false := by
 unfold has
 apply Nat.testBit_lt_two_pow
 have : 2 ^ n ≤ 2 ^ v := Nat.pow_le_pow_right (by decide) hv
 omega
theorem lt_has {n : Nat} (h0 : 0 ≤ z) (h : ∀ v, n ≤ v → has z v = false) : z < ((2 ^ n : Nat) : Int) := by
 have : z.toNat < 2 ^ n := Nat.lt_pow_two_of_testBit _ h
 omega
theorem ior0 (a b : Int) : 0 ≤ ior a b := Int.natCast_nonneg _
theorem iand0 (a b : Int) : 0 ≤ iand a b := Int.natCast_nonneg _
def sub (a b : Int) : Prop := ∀ v, has a v = true → has b v = true
theorem sub_antisymm (ha : 0 ≤ a) (hb : 0 ≤ b) (h1 : sub a b) (h2 : sub b a) : a = b :=
 side_ext ha hb fun v => by
  cases e1 : has a v <;> cases e2 : has b v
  ·rfl
  ·have := h2 v e2; rw [e1] at this; cases this
  ·have := h1 v e1; rw [e2] at this; cases this
  ·rfl
def many (z : Int) : Nat → Nat
 | 0 => 0
 | m + 1 => (if has z m then 1 else 0) + many z m
theorem many_le (z : Int) : ∀ m, many z m ≤ m
 | 0 => Nat.le_refl _
 | m + 1 => by have := many_le z m; unfold many; split <;> omega
theorem many_sub (h : sub a b) : ∀ m, many a m ≤ many b m
 | 0 => Nat.le_refl _
 | m + 1 => by
  have := many_sub h m
  unfold many
  cases e : has a m
  ·simp; split <;> omega
  ·rw [h m e]; simp; omega
theorem many_lt (h : sub a b) (h1 : has a v = false) (h2 : has b v = true) : ∀ {m}, v < m → many a m < many b m
 | m + 1, hv => by
  unfold many
  by_cases e : v = m
  ·subst e
   rw [h1, h2]
   have := many_sub h v
   simp; omega
  ·have := many_lt h h1 h2 (m := m) (by omega)
   cases e2 : has a m
   ·simp; split <;> omega
   ·rw [h m e2]; simp; omega
theorem many_pos (h : has z v = true) : ∀ {m}, v < m → 1 ≤ many z m
 | m + 1, hv => by
  unfold many
  by_cases e : v = m
  ·subst e; rw [h]; simp
  ·have := many_pos h (m := m) (by omega); omega
end Go.Ab
namespace Go.Ab
variable {b : Bool} {k n s u v : Int} {r : Nat → Nat} {f fr todo : List Int} {es : List Arc}
def Res (es : List Arc) (f : List Int) (k : Int) (b : Bool) (u v : Int) : Prop :=
 0 ≤ k ∧ k < es.length ∧ (if b = true then (es.getD k.toNat default).dst = u ∧ (es.getD k.toNat default).src = v ∧ 0 < f.getD k.toNat 0 else (es.getD k.toNat default).src = u ∧ (es.getD k.toNat default).dst = v ∧ f.getD k.toNat 0 < (es.getD k.toNat default).cap)
def negs : List Int → Nat
 | [] => 0
 | x :: r => (if x < 0 then 1 else 0) + negs r
theorem negs_set : ∀ {l : List Int} {i : Nat} {x : Int}, i < l.length → l.getD i 0 < 0 → 0 ≤ x → negs (l.set i x) + 1 = negs l
 | [], _, _, h, _, _ => by simp at h
 | y :: r, 0, x, _, h1, h2 => by
  simp only [List.getD_cons_zero] at h1
  simp only [List.set_cons_zero, negs]
  rw [if_neg (by omega), if_pos h1]; omega
 | y :: r, i + 1, x, h, h1, h2 => by
  have := negs_set (l := r) (i := i) (x := x) (by simpa using h) (by simpa using h1) h2
  simp only [List.set_cons_succ, negs]; omega
structure Bfs (es : List Arc) (f : List Int) (s n : Int) (fr : List Int) (st : List (Int × Bool)) (todo : List Int) (r : Nat → Nat) (c : Nat) : Prop where
 l1 : fr.length = 12
 l2 : st.length = 12
 src : fr.getD s.toNat 0 = s
 lo : ∀ v, v < 12 → -1 ≤ fr.getD v 0
 vis : ∀ v : Nat, v < 12 → 0 ≤ fr.getD v 0 → (v : Int) < n ∧ fr.getD v 0 < n ∧ 0 ≤ fr.getD (fr.getD v 0).toNat 0 ∧ r v < c ∧
  ((v : Int) ≠ s → Res es f (st.getD v (0, false)).1 (st.getD v (0, false)).2 (fr.getD v 0) (v : Int) ∧ r (fr.getD v 0).toNat < r v)
 todo_ : ∀ u ∈ todo, 0 ≤ u ∧ u < n ∧ 0 ≤ fr.getD u.toNat 0
def Closed (es : List Arc) (f : List Int) (n : Int) (fr : List Int) (todo : List Int) : Prop := ∀ u, 0 ≤ u → u < n → 0 ≤ fr.getD u.toNat 0 → u ∉ todo → ∀ k b v, Res es f k b u v → 0 ≤ v → v < n → 0 ≤ fr.getD v.toNat 0
theorem Bfs.visit {st : List (Int × Bool)} {c : Nat} (h : Bfs es f s n fr st todo r c) (hn : n ≤ 12) (hs : 0 ≤ s) (u0 : 0 ≤ u) (u1 : u < n) (uv : 0 ≤ fr.getD u.toNat 0)
  (v0 : 0 ≤ v) (v1 : v < n) (vv : fr.getD v.toNat 0 < 0) (hr : Res es f k b u v) (hsn : s < n) : Bfs es f s n (fr.set v.toNat u) (st.set v.toNat (k, b)) (todo ++ [v]) (fun x => if x = v.toNat then c else r x) (c + 1) := by
 have hv12 : v.toNat < fr.length := by have := h.l1; omega
 have hvs : v.toNat ≠ s.toNat := by
  intro e
  rw [e, h.src] at vv; omega
 have get : ∀ x, (fr.set v.toNat u).getD x 0 = if x = v.toNat then u else fr.getD x 0 := by
  intro x
  by_cases hx : x = v.toNat
  ·subst hx; rw [if_pos rfl, getD_set_self _ _ _ _ hv12]
  ·rw [if_neg hx, getD_set_ne _ _ _ _ _ (Ne.symm hx)]
 have getS : ∀ x, (st.set v.toNat (k, b)).getD x (0, false) = if x = v.toNat then (k, b) else st.getD x (0, false) := by
  intro x
  by_cases hx : x = v.toNat
  ·subst hx; rw [if_pos rfl, getD_set_self _ _ _ _ (by have := h.l2; omega)]
  ·rw [if_neg hx, getD_set_ne _ _ _ _ _ (Ne.symm hx)]
 refine ⟨by simp [h.l1], by simp [h.l2], by rw [get, if_neg (Ne.symm hvs)]; exact h.src, fun x hx => ?_, fun x hx hvx => ?_, fun y hy => ?_⟩
 ·rw [get]; split
  ·omega
  ·exact h.lo x hx
 ·rw [get] at hvx ⊢
  by_cases hxv : x = v.toNat
  ·simp only [if_pos hxv] at hvx ⊢
   have hu : u.toNat ≠ v.toNat := by
    intro e; rw [e] at uv; omega
   have hur := (h.vis u.toNat (by omega) uv).2.2.2.1
   refine ⟨by omega, u1, ?_, by omega, fun _ => ⟨?_, ?_⟩⟩
   ·rw [get, if_neg hu]; exact uv
   ·rw [getS, if_pos hxv, hxv, show ((v.toNat : Nat) : Int) = v by omega]; exact hr
   ·rw [if_neg hu]; exact hur
  ·simp only [if_neg hxv] at hvx ⊢
   obtain ⟨h1, h2, h3, h4, h5⟩ := h.vis x hx hvx
   have hpx : (fr.getD x 0).toNat ≠ v.toNat := by
    intro e; rw [e] at h3; omega
   refine ⟨h1, h2, ?_, by omega, fun hxs => ?_⟩
   ·rw [get, if_neg hpx]; exact h3
   ·obtain ⟨k1, k2⟩ := h5 hxs
    rw [getS, if_neg hxv, if_neg hpx]
    exact ⟨k1, k2⟩
 ·rw [get]
  rcases List.mem_append.1 hy with hy | hy
  ·obtain ⟨y0, y1, y2⟩ := h.todo_ y hy
   refine ⟨y0, y1, ?_⟩
   split
   ·exact u0
   ·exact y2
  ·rw [List.mem_singleton] at hy
   subst hy
   rw [if_pos rfl]
   exact ⟨v0, v1, u0⟩
theorem Closed.visit (h : Closed es f n fr todo) (u0 : 0 ≤ u) (v0 : 0 ≤ v) (hv : v.toNat < fr.length) : Closed es f n (fr.set v.toNat u) (todo ++ [v]) := by
 intro x x0 x1 xv xt k b y hr y0 y1
 have hxv : x.toNat ≠ v.toNat := by
  intro e
  have : x = v := by omega
  subst this
  exact xt (List.mem_append_right _ (List.mem_singleton.2 rfl))
 rw [getD_set_ne _ _ _ _ _ (Ne.symm hxv)] at xv
 have := h x x0 x1 xv (fun hm => xt (List.mem_append_left _ hm)) k b y hr y0 y1
 by_cases hy : v.toNat = y.toNat
 ·rw [← hy, getD_set_self _ _ _ _ hv]; exact u0
 ·rw [getD_set_ne _ _ _ _ _ hy]; exact this
theorem found_visit (u0 : 0 ≤ u) (hv : v.toNat < fr.length) {x : Nat} (h : 0 ≤ fr.getD x 0) : 0 ≤ (fr.set v.toNat u).getD x 0 := by
 by_cases hx : v.toNat = x
 ·rw [← hx, getD_set_self _ _ _ _ hv]; exact u0
 ·rw [getD_set_ne _ _ _ _ _ hx]; exact h
def maskOf (p : Nat → Bool) : Nat → Nat
 | 0 => 0
 | n + 1 => maskOf p n + (if p n = true then 2 ^ n else 0)
theorem maskOf_lt (p : Nat → Bool) : ∀ n, maskOf p n < 2 ^ n
 | 0 => by simp [maskOf]
 | n + 1 => by
  have := maskOf_lt p n
  simp only [maskOf, Nat.pow_succ]
  split <;> omega
theorem maskOf_bit (p : Nat → Bool) : ∀ n v, v < n → (maskOf p n / 2 ^ v) % 2 = if p v = true then 1 else 0
 | 0, _, h => by omega
 | n + 1, v, h => by
  have hlt := maskOf_lt p n
  simp only [maskOf]
  rcases Nat.lt_succ_iff_lt_or_eq.1 h with hv | hv
  ·have ih := maskOf_bit p n v hv
   by_cases hp : p n = true
   ·rw [if_pos hp]
    have h2 : 2 ^ n = 2 ^ v * (2 * 2 ^ (n - v - 1)) := by
     rw [← Nat.pow_succ', ← Nat.pow_add]; congr 1; omega
    rw [h2, Nat.add_mul_div_left _ _ (Nat.pow_pos (by decide)), Nat.add_mul_mod_self_left]
    exact ih
   ·rw [if_neg hp, Nat.add_zero]; exact ih
  ·subst hv
   have h0 : maskOf p v / 2 ^ v = 0 := Nat.div_eq_of_lt hlt
   by_cases hp : p v = true
   ·rw [if_pos hp, if_pos hp, Nat.add_div_right _ (Nat.pow_pos (by decide)), h0]
   ·rw [if_neg hp, if_neg hp, Nat.add_zero, h0]
theorem bit_nat (m v : Nat) : bit (m : Int) (v : Int) = (((m / 2 ^ v) % 2 : Nat) : Int) := by
 unfold bit iand
 have h1 : ((m : Int) / 2 ^ (v : Int).toNat).toNat = m / 2 ^ v := by
  rw [show ((v : Int).toNat) = v by omega, show (2 : Int) ^ v = ((2 ^ v : Nat) : Int) by norm_cast, ← Int.natCast_ediv]
  exact Int.toNat_natCast _
 rw [h1]
 exact congrArg _ (Nat.and_one_is_mod _)
theorem Bfs.shut {t : Int} {st : List (Int × Bool)} {c : Nat} (hok : NOk n s t es) (hf : FIn es f) (h : Bfs es f s n fr st [] r c) (hc : Closed es f n fr []) (ht : fr.getD t.toNat 0 < 0) : ∃ z, Parts n s t z ∧ Shut es f z := by
 have h2 := hok.n2
 have h4 := hok.s0
 have h5 := hok.s1
 have h6 := hok.t0
 have h7 := hok.t1
 refine ⟨((maskOf (fun v => decide (0 ≤ fr.getD v 0)) n.toNat : Nat) : Int), ⟨by omega, Int.ofNat_lt.2 (maskOf_lt _ _), ?_, ?_⟩, ?_⟩
 ·have := bit_nat (maskOf (fun v => decide (0 ≤ fr.getD v 0)) n.toNat) s.toNat
  rw [show ((s.toNat : Nat) : Int) = s by omega, maskOf_bit _ _ _ (by omega), if_pos (by rw [h.src]; simpa using h4)] at this
  exact this
 ·have := bit_nat (maskOf (fun v => decide (0 ≤ fr.getD v 0)) n.toNat) t.toNat
  rw [show ((t.toNat : Nat) : Int) = t by omega, maskOf_bit _ _ _ (by omega), if_neg (by simpa using ht)] at this
  exact this
 ·intro k hk
  obtain ⟨a1, a2, a3, a4, _, _⟩ := hok.at_ hk
  have hfk := hf.at_ k hk
  have b1 := bit_nat (maskOf (fun v => decide (0 ≤ fr.getD v 0)) n.toNat) (es.getD k default).src.toNat
  have b2 := bit_nat (maskOf (fun v => decide (0 ≤ fr.getD v 0)) n.toNat) (es.getD k default).dst.toNat
  rw [show (((es.getD k default).src.toNat : Nat) : Int) = (es.getD k default).src by omega, maskOf_bit _ _ _ (by omega)] at b1
  rw [show (((es.getD k default).dst.toNat : Nat) : Int) = (es.getD k default).dst by omega, maskOf_bit _ _ _ (by omega)] at b2
  rw [b1, b2]
  constructor
  ·intro e1 e2
   split at e1
   ·rename_i p1
    split at e2
    ·cases e2
    ·rename_i p2
     cases Int.decEq (f.getD k 0) (es.getD k default).cap with
     | isTrue e => exact e
     | isFalse e =>
      refine absurd ?_ p2
      have := hc (es.getD k default).src a1 a2 (by simpa using p1) (by simp) (k : Int) false (es.getD k default).dst ⟨by omega, by omega, by simp only [Bool.false_eq_true, if_false]; rw [show (k : Int).toNat = k by omega]; exact ⟨rfl, rfl, by omega⟩⟩ a3 a4
      simpa using this
   ·cases e1
  ·intro e1 e2
   split at e2
   ·rename_i p2
    split at e1
    ·cases e1
    ·rename_i p1
     cases Int.decEq (f.getD k 0) 0 with
     | isTrue e => exact e
     | isFalse e =>
      refine absurd ?_ p1
      have := hc (es.getD k default).dst a3 a4 (by simpa using p2) (by simp) (k : Int) true (es.getD k default).src ⟨by omega, by omega, by simp only [if_true]; rw [show (k : Int).toNat = k by omega]; exact ⟨rfl, rfl, by omega⟩⟩ a1 a2
      simpa using this
   ·cases e2
def room1 (es : List Arc) (f : List Int) (p : Int × Bool) : Int := if p.2 = true then f.getD p.1.toNat 0 else (es.getD p.1.toNat default).cap - f.getD p.1.toNat 0
def ChainB (es : List Arc) (f : List Int) : Int → List (Int × Bool) → Int → Prop
 | t, [], a => t = a
 | t, p :: r, a => ∃ u, Res es f p.1 p.2 u t ∧ ChainB es f u r a
theorem ChainB.snoc {p : Int × Bool} {a : Int} (hr : Res es f p.1 p.2 u a) : ∀ {l : List (Int × Bool)} {t : Int}, ChainB es f t l a → ChainB es f t (l ++ [p]) u
 | [], t, h => by
  have : t = a := h
  subst this
  exact ⟨u, hr, rfl⟩
 | q :: r, t, ⟨w, h1, h2⟩ => ⟨w, h1, ChainB.snoc hr h2⟩
def Once : List (Int × Bool) → Prop
 | [] => True
 | p :: r => (∀ q ∈ r, q.1 ≠ p.1) ∧ Once r
theorem Once.snoc {p : Int × Bool} : ∀ {l : List (Int × Bool)}, Once l → (∀ q ∈ l, q.1 ≠ p.1) → Once (l ++ [p])
 | [], _, _ => ⟨fun q hq => by simp at hq, trivial⟩
 | q :: r, h, hn => ⟨fun x hx => by
   rcases List.mem_append.1 hx with hx | hx
   ·exact h.1 x hx
   ·rw [List.mem_singleton] at hx
    subst hx
    exact fun e => hn q List.mem_cons_self e.symm, Once.snoc h.2 (fun x hx => hn x (List.mem_cons_of_mem _ hx))⟩
def WayOk (n s t : Int) (es : List Arc) (f : List Int) (l : List (Int × Bool)) (room : Int) : Prop :=
 (room = 0 ∧ l = [] ∧ ∃ z, Parts n s t z ∧ Shut es f z) ∨ (0 < room ∧ room ≤ 10000 ∧ ChainB es f t l s ∧ Once l ∧ (∀ p ∈ l, room ≤ room1 es f p) ∧ l.length ≤ 12)
theorem Res.ends (h : Res es f k b u v) : ((es.getD k.toNat default).src = u ∧ (es.getD k.toNat default).dst = v) ∨ ((es.getD k.toNat default).src = v ∧ (es.getD k.toNat default).dst = u) := by
 obtain ⟨_, _, h⟩ := h
 split at h
 ·exact .inr ⟨h.2.1, h.1⟩
 ·exact .inl ⟨h.1, h.2.1⟩
theorem Res.pos (h : Res es f k b u v) : 0 < room1 es f (k, b) := by
 obtain ⟨_, _, h⟩ := h
 unfold room1
 cases b
 ·simp only [Bool.false_eq_true, if_false] at h ⊢; omega
 ·simp only [if_true] at h ⊢; omega
def Above (es : List Arc) (r : Nat → Nat) (a : Int) (l : List (Int × Bool)) : Prop := ∀ p ∈ l, r a.toNat ≤ r (es.getD p.1.toNat default).src.toNat ∧ r a.toNat ≤ r (es.getD p.1.toNat default).dst.toNat
theorem Above.snoc {a : Int} {l : List (Int × Bool)} (h : Above es r a l) (hr : Res es f k b u a) (hlt : r u.toNat < r a.toNat) : Above es r u (l ++ [(k, b)]) ∧ ∀ q ∈ l, q.1 ≠ k := by
 refine ⟨fun p hp => ?_, fun q hq e => ?_⟩
 ·rcases List.mem_append.1 hp with hp | hp
  ·have := h p hp; omega
  ·rw [List.mem_singleton] at hp
   subst hp
   rcases hr.ends with ⟨e1, e2⟩ | ⟨e1, e2⟩ <;> rw [e1, e2] <;> omega
 ·have := h q hq
  rw [e] at this
  rcases hr.ends with ⟨e1, e2⟩ | ⟨e1, e2⟩ <;> rw [e1, e2] at this <;> omega
theorem Closed.next {x : List Int} (h : Closed es f n fr (todo ++ x)) (hne : 0 < todo.length)
  (ha : ∀ k b v, Res es f k b (todo.getD 0 0) v → 0 ≤ v → v < n → 0 ≤ fr.getD v.toNat 0) : Closed es f n fr ((todo ++ x).drop 1) := by
 intro u u0 u1 uv ut k b v hr v0 v1
 by_cases hu : u = todo.getD 0 0
 ·subst hu; exact ha k b v hr v0 v1
 ·refine h u u0 u1 uv (fun hm => ?_) k b v hr v0 v1
  match todo, hne with
  | y :: r, _ =>
   simp only [List.getD_cons_zero] at hu
   simp only [List.cons_append, List.mem_cons] at hm
   rcases hm with hm | hm
   ·exact hu hm
   ·exact ut (by simpa using hm)
theorem bfs_start {m : List Int} (hm : m.length = 12) (h : ∀ j, j < 12 → m.getD j 0 = -1) (h0 : 0 ≤ s) (h1 : s < n) (h2 : n ≤ 12) {bs : List (Int × Bool)} (hb : bs.length = 12) :
  Bfs es f s n (m.set s.toNat s) bs [s] (fun _ => 0) 1 ∧ Closed es f n (m.set s.toNat s) [s] ∧ negs (m.set s.toNat s) + 1 ≤ 12 := by
 have get : ∀ x, (m.set s.toNat s).getD x 0 = if x = s.toNat then s else m.getD x 0 := by
  intro x
  by_cases hx : x = s.toNat
  ·subst hx; rw [if_pos rfl, getD_set_self _ _ _ _ (by omega)]
  ·rw [if_neg hx, getD_set_ne _ _ _ _ _ (Ne.symm hx)]
 refine ⟨⟨by simp [hm], hb, by rw [get, if_pos rfl], fun v hv => ?_, fun v hv hvis => ?_, fun u hu => ?_⟩, fun u u0 u1 uv ut => ?_, ?_⟩
 ·rw [get]; split
  ·omega
  ·have := h v hv; omega
 ·rw [get] at hvis ⊢
  by_cases hx : v = s.toNat
  ·simp only [if_pos hx]
   refine ⟨by omega, h1, ?_, by omega, fun hn => absurd (by omega) hn⟩
   rw [get, if_pos rfl]; exact h0
  ·simp only [if_neg hx] at hvis
   have := h v hv; omega
 ·rw [List.mem_singleton] at hu
  subst hu
  exact ⟨h0, h1, by rw [get, if_pos rfl]; exact h0⟩
 ·rw [get] at uv
  by_cases hx : u.toNat = s.toNat
  ·exact absurd (List.mem_singleton.2 (by omega)) ut
  ·rw [if_neg hx] at uv
   have := h u.toNat (by omega)
   omega
 ·have := negs_set (l := m) (i := s.toNat) (x := s) (by omega) (by have := h s.toNat (by omega); omega) h0
  have hle : ∀ l : List Int, negs l ≤ l.length := by
   intro l
   induction l with
   | nil => exact Nat.le_refl _
   | cons x r ih => simp only [negs, List.length_cons]; split <;> omega
  have := hle m
  omega
end Go.Ab
namespace Go.Ab
variable {f : List Int} {es : List Arc} {n s t : Int}
theorem gone_set {k : Nat} (x v : Int) : k < es.length → f.length = es.length →
  gone es (f.set k x) v = gone es f v + ((if (es.getD k default).src = v then x - f.getD k 0 else 0) - (if (es.getD k default).dst = v then x - f.getD k 0 else 0)) := by
 induction es generalizing f k with
 | nil => intro h; simp at h
 | cons a r ih =>
  intro h hl
  cases f with
  | nil => simp at hl
  | cons y q =>
   cases k with
   | zero =>
    simp only [List.set_cons_zero, List.getD_cons_zero, gone]
    by_cases h1 : a.src = v <;> by_cases h2 : a.dst = v <;> simp only [h1, h2, if_true, if_false] <;> omega
   | succ k =>
    have := ih (f := q) (k := k) (by simpa using h) (by simpa using hl)
    simp only [List.set_cons_succ, List.getD_cons_succ, gone]
    omega
theorem gone_bound (v : Int) (h : FIn es f) (hc : ∀ a ∈ es, a.cap ≤ 10000) : -(10000 * (es.length : Int)) ≤ gone es f v ∧ gone es f v ≤ 10000 * (es.length : Int) := by
 induction es generalizing f with
 | nil => simp [gone]
 | cons a r ih =>
  cases f with
  | nil => have := h.len; simp at this
  | cons x q =>
   have h0 := h.at_ 0 (by simp)
   simp only [List.getD_cons_zero] at h0
   have ha := hc a List.mem_cons_self
   have hr := ih (f := q) ⟨by have := h.len; simpa using this, fun k hk => by have := h.at_ (k + 1) (by simpa using hk); simpa using this⟩ (fun b hb => hc b (List.mem_cons_of_mem _ hb))
   simp only [gone, List.length_cons]
   by_cases h1 : a.src = v <;> by_cases h2 : a.dst = v <;> simp only [h1, h2, if_true, if_false] <;> omega
theorem mem_getD {α : Type} (d : α) {a : α} : ∀ {l : List α}, a ∈ l → ∃ k, k < l.length ∧ l.getD k d = a
 | b :: r, h => by
  rcases List.mem_cons.1 h with rfl | h
  ·exact ⟨0, by simp, rfl⟩
  ·obtain ⟨k, hk, he⟩ := mem_getD d h
   exact ⟨k + 1, by simpa using hk, by simpa using he⟩
theorem FlOk.bound (h : FlOk n s t es f) (v : Int) : -600000 ≤ gone es f v ∧ gone es f v ≤ 600000 := by
 have hb := gone_bound v h.fin (fun a ha => by
  obtain ⟨k, hk, hak⟩ := mem_getD default ha
  rw [← hak]; exact (h.net.at_ hk).2.2.2.2.2)
 have := h.net.len
 omega
def augStep (room : Int) (f : List Int) (p : Int × Bool) : List Int := f.set p.1.toNat (if p.2 = true then f.getD p.1.toNat 0 - room else f.getD p.1.toNat 0 + room)
theorem aug_len (room : Int) : ∀ (l : List (Int × Bool)) (f : List Int), (l.foldl (augStep room) f).length = f.length
 | [], _ => rfl
 | p :: r, f => by simp only [List.foldl_cons]; rw [aug_len room r]; simp [augStep]
theorem aug_get (room : Int) {k : Nat} : ∀ (l : List (Int × Bool)) (f : List Int), (∀ q ∈ l, q.1.toNat ≠ k) → (l.foldl (augStep room) f).getD k 0 = f.getD k 0
 | [], _, _ => rfl
 | p :: r, f, h => by
  simp only [List.foldl_cons]
  rw [aug_get room r _ (fun q hq => h q (List.mem_cons_of_mem _ hq))]
  exact getD_set_ne _ _ _ _ _ (h p List.mem_cons_self)
def Ends (es : List Arc) (p : Int × Bool) (u v : Int) : Prop :=
 0 ≤ p.1 ∧ p.1 < es.length ∧ (if p.2 = true then (es.getD p.1.toNat default).dst = u ∧ (es.getD p.1.toNat default).src = v else (es.getD p.1.toNat default).src = u ∧ (es.getD p.1.toNat default).dst = v)
def ChainE (es : List Arc) : Int → List (Int × Bool) → Int → Prop
 | t, [], a => t = a
 | t, p :: r, a => ∃ u, Ends es p u t ∧ ChainE es u r a
theorem ChainB.ends {a : Int} : ∀ {l : List (Int × Bool)} {t : Int}, ChainB es f t l a → ChainE es t l a
 | [], _, h => h
 | p :: r, t, ⟨u, h1, h2⟩ => ⟨u, ⟨h1.1, h1.2.1, by
   have h := h1.2.2
   split at h
   ·rename_i hb; rw [if_pos hb]; exact ⟨h.1, h.2.1⟩
   ·rename_i hb; rw [if_neg hb]; exact ⟨h.1, h.2.1⟩⟩, ChainB.ends h2⟩
theorem ChainE.within {a : Int} : ∀ {l : List (Int × Bool)} {t : Int}, ChainE es t l a → ∀ p ∈ l, 0 ≤ p.1 ∧ p.1 < es.length
 | [], _, _, p, hp => by cases hp
 | q :: r, _, ⟨_, h1, h2⟩, p, hp => by
  rcases List.mem_cons.1 hp with rfl | hp
  ·exact ⟨h1.1, h1.2.1⟩
  ·exact h2.within p hp
theorem aug_ok {room : Int} (h0 : 0 < room) : ∀ (l : List (Int × Bool)) {f : List Int} {t a : Int}, FIn es f → ChainE es t l a → Once l → (∀ p ∈ l, room ≤ room1 es f p) →
  FIn es (l.foldl (augStep room) f) ∧ ∀ v, gone es (l.foldl (augStep room) f) v = gone es f v + ((if a = v then room else 0) - (if t = v then room else 0))
 | [], f, t, a, hf, hch, _, _ => by
  have : t = a := hch
  subst this
  exact ⟨hf, fun v => by simp⟩
 | p :: r, f, t, a, hf, ⟨u, h1, h2⟩, ho, hr => by
  have hk0 := h1.1
  have hk1 := h1.2.1
  have hp := hr p List.mem_cons_self
  have hfk := hf.at_ p.1.toNat (by omega)
  have hlen := hf.len
  have get : ∀ k, (augStep room f p).getD k 0 = if k = p.1.toNat then (if p.2 = true then f.getD p.1.toNat 0 - room else f.getD p.1.toNat 0 + room) else f.getD k 0 := by
   intro k
   unfold augStep
   by_cases hk : k = p.1.toNat
   ·subst hk; rw [if_pos rfl, getD_set_self _ _ _ _ (by omega)]
   ·rw [if_neg hk, getD_set_ne _ _ _ _ _ (Ne.symm hk)]
  have hf1 : FIn es (augStep room f p) := by
   refine ⟨by simp [augStep, hlen], fun k hk => ?_⟩
   rw [get]
   by_cases hkp : k = p.1.toNat
   ·rw [if_pos hkp, hkp]
    unfold room1 at hp
    split at hp
    ·rename_i hb; rw [if_pos hb]; omega
    ·rename_i hb; rw [if_neg hb]; omega
   ·rw [if_neg hkp]; exact hf.at_ k hk
  have hr1 : ∀ q ∈ r, room ≤ room1 es (augStep room f p) q := by
   intro q hq
   have h3 := hr q (List.mem_cons_of_mem _ hq)
   have hne := ho.1 q hq
   have hq0 := (h2.within q hq).1
   have hq : (augStep room f p).getD q.1.toNat 0 = f.getD q.1.toNat 0 := by rw [get]; exact if_neg (by omega)
   unfold room1 at h3 ⊢
   rw [hq]
   exact h3
  obtain ⟨g1, g2⟩ := aug_ok h0 r hf1 h2 ho.2 hr1
  refine ⟨g1, fun v => ?_⟩
  simp only [List.foldl_cons]
  rw [g2 v]
  have e1 : gone es (augStep room f p) v = gone es f v + ((if u = v then room else 0) - (if t = v then room else 0)) := by
   unfold augStep
   rw [gone_set _ v (by omega) hlen]
   have he := h1.2.2
   cases hb : p.2
   ·rw [hb] at he
    simp only [Bool.false_eq_true, if_false] at he ⊢
    rw [he.1, he.2]
    by_cases e1 : u = v <;> by_cases e2 : t = v <;> simp only [e1, e2, if_true, if_false] <;> omega
   ·rw [hb] at he
    simp only [if_true] at he ⊢
    rw [he.1, he.2]
    by_cases e1 : u = v <;> by_cases e2 : t = v <;> simp only [e1, e2, if_true, if_false] <;> omega
  rw [e1]
  by_cases e1 : u = v <;> by_cases e2 : t = v <;> by_cases e3 : a = v <;> simp only [e1, e2, e3, if_true, if_false] <;> omega
theorem Once.at_ : ∀ {l : List (Int × Bool)} {j : Nat} {d : Int × Bool}, Once l → j < l.length → ∀ q ∈ l.take j, q.1 ≠ (l.getD j d).1
 | [], _, _, _, hj, _, _ => by simp at hj
 | p :: r, 0, _, _, _, q, hq => by simp at hq
 | p :: r, j + 1, d, h, hj, q, hq => by
  simp only [List.take_succ_cons, List.mem_cons, List.getD_cons_succ] at hq ⊢
  have hj' : j < r.length := by simpa using hj
  rcases hq with rfl | hq
  ·exact fun e => h.1 _ (getD_mem (d := d) hj') e.symm
  ·exact Once.at_ h.2 hj' q hq
theorem FlOk.along {l : List (Int × Bool)} {room : Int} (h : FlOk n s t es f) (h0 : 0 < room) (hch : ChainB es f t l s) (ho : Once l) (hr : ∀ p ∈ l, room ≤ room1 es f p) :
  FlOk n s t es (l.foldl (augStep room) f) ∧ gone es (l.foldl (augStep room) f) s = gone es f s + room := by
 obtain ⟨h1, h2⟩ := aug_ok h0 l h.fin hch.ends ho hr
 refine ⟨⟨h.net, h1, fun k hs ht => ?_⟩, ?_⟩
 ·rw [h2, if_neg (fun e => hs e.symm), if_neg (fun e => ht e.symm), h.kept k hs ht]; rfl
 ·rw [h2, if_pos rfl, if_neg (fun e => h.net.ne e.symm)]; omega
theorem gone_zeros (v : Int) : ∀ es : List Arc, gone es (List.replicate es.length 0) v = 0
 | [] => rfl
 | a :: r => by
  simp only [List.length_cons, List.replicate_succ, gone, gone_zeros v r]
  split <;> split <;> rfl
theorem over_zeros : ∀ {es : List Arc}, (∀ a ∈ es, 0 ≤ a.cap) → over es (List.replicate es.length 0) = false
 | [], _ => rfl
 | a :: r, h => by
  have := h a List.mem_cons_self
  simp only [List.length_cons, List.replicate_succ, over, over_zeros (fun b hb => h b (List.mem_cons_of_mem _ hb)), Bool.or_false, Bool.or_eq_false_iff, decide_eq_false_iff_not]
  omega
theorem flowErr_zeros (hE : netErr n s t es = 0) : flowErr n s t es (List.replicate es.length 0) = 0 := by
 have hok := netErr_ok hE
 unfold flowErr
 rw [if_neg (by omega), if_neg (by simp), if_neg, if_neg]
 ·rintro ⟨k, _, _, _, h⟩
  exact h (gone_zeros _ _)
 ·rw [over_zeros (fun a ha => by obtain ⟨k, hk, hak⟩ := mem_getD default ha; rw [← hak]; exact (hok.at_ hk).2.2.2.2.1)]
  decide
def MostOk (n s t : Int) (es : List Arc) (e : Int) (g : List Int) (v : Int) : Prop :=
 (e ≠ 0 ∧ g = [] ∧ v = 0) ∨ (e = 0 ∧ FlOk n s t es g ∧ gone es g s = v ∧ v = (parted n s t es).1)
end Go.Ab
namespace Go.Ab
variable {a b n s t z : Int} {tr : Bool} {f : List Int} {es : List Arc}
def xOf (tr : Bool) (a : Arc) : Int := cond tr a.dst a.src
def yOf (tr : Bool) (a : Arc) : Int := cond tr a.src a.dst
def CloAt (es : List Arc) (f : List Int) (tr : Bool) (w : Int) (k : Nat) : Prop :=
 (f.getD k 0 < (es.getD k default).cap → has w (xOf tr (es.getD k default)).toNat = true → has w (yOf tr (es.getD k default)).toNat = true) ∧
 (0 < f.getD k 0 → has w (yOf tr (es.getD k default)).toNat = true → has w (xOf tr (es.getD k default)).toNat = true)
def Clo (es : List Arc) (f : List Int) (tr : Bool) (w : Int) : Prop := ∀ k, k < es.length → CloAt es f tr w k
structure Sp (es : List Arc) (f : List Int) (tr : Bool) (n a z : Int) : Prop where
 z0 : 0 ≤ z
 lt : ∀ v, n.toNat ≤ v → has z v = false
 at_ : has z a.toNat = true
 min : ∀ w, Clo es f tr w → has w a.toNat = true → sub z w
theorem Sp.start (h0 : 0 ≤ a) (h1 : a < n) : Sp es f tr n a (1 * 2 ^ a.toNat) := by
 refine ⟨by rw [Int.one_mul, pow_nat]; exact Int.natCast_nonneg _, fun v hv => ?_, ?_, fun w _ hw v hv => ?_⟩
 ·rw [has_pow]; simp; omega
 ·rw [has_pow]; simp
 ·rw [has_pow] at hv
  have : a.toNat = v := by simpa using hv
  rw [← this]; exact hw
theorem Sp.add (h : Sp es f tr n a z) {u : Nat} (hu : u < n.toNat) (hm : ∀ w, Clo es f tr w → sub z w → has w u = true) : Sp es f tr n a (ior z (1 * 2 ^ u)) := by
 refine ⟨ior0 _ _, fun v hv => ?_, ?_, fun w hw ha v hv => ?_⟩
 ·rw [has_ior, h.lt v hv, has_pow]; simp; omega
 ·rw [has_ior, h.at_]; rfl
 ·rw [has_ior, has_pow] at hv
  cases e : has z v
  ·rw [e] at hv
   have : u = v := by simpa using hv
   rw [← this]; exact hm w hw (h.min w hw ha)
  ·exact h.min w hw ha v e
theorem sub_ior (a b : Int) : sub a (ior a b) := fun v hv => by rw [has_ior, hv]; rfl
theorem sub_refl (a : Int) : sub a a := fun _ h => h
theorem sub_trans {c : Int} (h1 : sub a b) (h2 : sub b c) : sub a c := fun v h => h2 v (h1 v h)
theorem ior_eq {u : Nat} (h : ior z (1 * 2 ^ u) = z) : has z u = true := by
 rw [← h, has_ior, has_pow]; simp
structure Pass (es : List Arc) (f : List Int) (tr : Bool) (z0 z : Int) (k : Nat) : Prop where
 sub_ : sub z0 z
 clo : z = z0 → ∀ j, j < k → CloAt es f tr z j
theorem Pass.step {z0 : Int} {k : Nat} (h : Pass es f tr z0 z k) (hs : Sp es f tr n a z) (hz0 : 0 ≤ z0) {z1 z2 : Int}
  (h1 : z1 = if f.getD k 0 < (es.getD k default).cap ∧ has z (xOf tr (es.getD k default)).toNat = true then ior z (1 * 2 ^ (yOf tr (es.getD k default)).toNat) else z)
  (h2 : z2 = if 0 < f.getD k 0 ∧ has z1 (yOf tr (es.getD k default)).toNat = true then ior z1 (1 * 2 ^ (xOf tr (es.getD k default)).toNat) else z1)
  (hk : k < es.length) (hx : (xOf tr (es.getD k default)).toNat < n.toNat) (hy : (yOf tr (es.getD k default)).toNat < n.toNat) : Sp es f tr n a z2 ∧ Pass es f tr z0 z2 (k + 1) := by
 have s1 : Sp es f tr n a z1 := by
  rw [h1]; split
  ·rename_i c; exact hs.add hy (fun w hw hz => (hw k hk).1 c.1 (hz _ c.2))
  ·exact hs
 have s2 : Sp es f tr n a z2 := by
  rw [h2]; split
  ·rename_i c; exact s1.add hx (fun w hw hz => (hw k hk).2 c.1 (hz _ c.2))
  ·exact s1
 have b1 : sub z z1 := by rw [h1]; split; exact sub_ior _ _; exact sub_refl _
 have b2 : sub z1 z2 := by rw [h2]; split; exact sub_ior _ _; exact sub_refl _
 refine ⟨s2, sub_trans h.sub_ (sub_trans b1 b2), fun e j hj => ?_⟩
 have e0 : z = z0 := sub_antisymm hs.z0 hz0 (fun v hv => by rw [← e]; exact b2 v (b1 v hv)) h.sub_
 have e1 : z1 = z0 := sub_antisymm s1.z0 hz0 (fun v hv => by rw [← e]; exact b2 v hv) (sub_trans h.sub_ b1)
 rw [e]
 rcases Nat.lt_succ_iff_lt_or_eq.1 hj with hj | hj
 ·have := h.clo e0 j hj
  rwa [e0] at this
 ·subst hj
  refine ⟨fun c1 c2 => ?_, fun c1 c2 => ?_⟩
  ·rw [e0] at h1
   rw [if_pos ⟨c1, c2⟩] at h1
   exact ior_eq (h1.symm.trans e1)
  ·rw [e1] at h2
   rw [if_pos ⟨c1, c2⟩] at h2
   exact ior_eq (h2.symm.trans e)
theorem Pass.start : Pass es f tr z z 0 := ⟨sub_refl _, fun _ j hj => by omega⟩
theorem Pass.end_ {z0 : Int} {k i : Nat} (h : Pass es f tr z0 z k) (hk : es.length ≤ k) (h0 : Sp es f tr n a z0) (hs : Sp es f tr n a z) (hp : Clo es f tr z0 ∨ i + 1 ≤ many z0 n.toNat) :
  Clo es f tr z ∨ (i + 1) + 1 ≤ many z n.toNat := by
 by_cases e : z = z0
 ·exact .inl fun j hj => h.clo e j (by omega)
 ·rcases hp with hp | hp
  ·exact absurd (sub_antisymm hs.z0 h0.z0 (hs.min z0 hp h0.at_) h.sub_) e
  ·right
   have hex : ∃ v, has z0 v = false ∧ has z v = true := by
    refine Classical.byContradiction fun hn => e ?_
    refine sub_antisymm hs.z0 h0.z0 (fun v hv => ?_) h.sub_
    cases e2 : has z0 v
    ·exact absurd ⟨v, e2, hv⟩ hn
    ·rfl
   obtain ⟨v, v1, v2⟩ := hex
   have hv : v < n.toNat := by
    refine Classical.byContradiction fun hn => ?_
    rw [hs.lt v (by omega)] at v2; cases v2
   have := many_lt h.sub_ v1 v2 hv
   omega
theorem Sp.many1 (h : Sp es f tr n a z) (h1 : 0 ≤ a) (h2 : a < n) : 0 + 1 ≤ many z n.toNat := many_pos h.at_ (by omega)
theorem Sp.done {i : Nat} (hp : Clo es f tr z ∨ i + 1 ≤ many z n.toNat) (hi : n.toNat ≤ i) : Clo es f tr z := by
 rcases hp with hp | hp
 ·exact hp
 ·have := many_le z n.toNat; omega
def SprOk (es : List Arc) (f : List Int) (tr : Bool) (n a z : Int) : Prop := Sp es f tr n a z ∧ Clo es f tr z
theorem Sp.in16 (h : Sp es f tr n a z) (hn : n ≤ 12) : 0 ≤ z ∧ z ≤ 65535 ∧ z < ((2 ^ n.toNat : Nat) : Int) := by
 have h1 := lt_has h.z0 h.lt
 have h2 := pow_le12 (n := n.toNat) (by omega)
 exact ⟨h.z0, by omega, h1⟩
theorem side_shut (hz : 0 ≤ z) (h : FIn es f) (he : sideGone es f z = capOf es z) : Shut es f z := by
 induction es generalizing f with
 | nil => intro k hk; simp at hk
 | cons a r ih =>
  cases f with
  | nil => have := h.len; simp at this
  | cons x q =>
   have h0 := h.at_ 0 (by simp)
   simp only [List.getD_cons_zero] at h0
   have hf : FIn r q := ⟨by have := h.len; simpa using this, fun k hk => by have := h.at_ (k + 1) (by simpa using hk); simpa using this⟩
   have hl := side_le hz hf
   simp only [sideGone, capOf] at he
   have h1 : x * (bit z a.src - bit z a.dst) ≤ a.cap * bit z a.src * (1 - bit z a.dst) := by
    rcases bit_01 a.src hz with h1 | h1 <;> rcases bit_01 a.dst hz with h2 | h2 <;> rw [h1, h2] <;> simp <;> omega
   have hr := ih hf (by omega)
   have h2 : x * (bit z a.src - bit z a.dst) = a.cap * bit z a.src * (1 - bit z a.dst) := by omega
   intro k hk
   cases k with
   | zero =>
    simp only [List.getD_cons_zero]
    refine ⟨fun b1 b2 => ?_, fun b1 b2 => ?_⟩
    ·rw [b1, b2] at h2; simpa using h2
    ·rw [b1, b2] at h2; simp at h2; omega
   | succ k =>
    simp only [List.getD_cons_succ]
    exact hr k (by simpa using hk)
theorem clo_of_shut (hz : 0 ≤ z) (h : Shut es f z) (hf : FIn es f) : Clo es f false z := by
 intro k hk
 have h1 := h k hk
 have h2 := hf.at_ k hk
 unfold CloAt xOf yOf
 simp only [cond_false]
 rw [bit_yes hz, bit_no hz] at h1
 rw [bit_no hz, bit_yes hz] at h1
 refine ⟨fun c1 c2 => ?_, fun c1 c2 => ?_⟩
 ·cases e : has z (es.getD k default).dst.toNat
  ·have := h1.1 c2 e; omega
  ·rfl
 ·cases e : has z (es.getD k default).src.toNat
  ·have := h1.2 e c2; omega
  ·rfl
theorem shut_of_clo (hz : 0 ≤ z) (h : Clo es f false z) (hf : FIn es f) : Shut es f z := by
 intro k hk
 have h1 := h k hk
 have h2 := hf.at_ k hk
 unfold CloAt xOf yOf at h1
 simp only [cond_false] at h1
 rw [bit_yes hz, bit_no hz, bit_no hz, bit_yes hz]
 refine ⟨fun c1 c2 => ?_, fun c1 c2 => ?_⟩
 ·have h3 := h1.1
  rw [c1, c2] at h3
  have : ¬ f.getD k 0 < (es.getD k default).cap := fun hlt => by simpa using h3 hlt rfl
  omega
 ·have h3 := h1.2
  rw [c1, c2] at h3
  have : ¬ 0 < f.getD k 0 := fun hlt => by simpa using h3 hlt rfl
  omega
theorem parted_sides (hg : GOk n es 0) : ∀ i : Nat,
  ((List.range i).foldl (fun x (k : Nat) => pstep s t es x (k : Int)) (-1, 0, 0)).1 = -1 ∧ (∀ k : Nat, k < i → ¬ (bit (k : Int) s = 1 ∧ bit (k : Int) t = 0)) ∨
  (0 ≤ ((List.range i).foldl (fun x (k : Nat) => pstep s t es x (k : Int)) (-1, 0, 0)).2.1 ∧ 0 ≤ ((List.range i).foldl (fun x (k : Nat) => pstep s t es x (k : Int)) (-1, 0, 0)).2.2 ∧
  (∀ k : Nat, k < i → bit (k : Int) s = 1 → bit (k : Int) t = 0 → capOf es (k : Int) = ((List.range i).foldl (fun x (k : Nat) => pstep s t es x (k : Int)) (-1, 0, 0)).1 →
   sub ((List.range i).foldl (fun x (k : Nat) => pstep s t es x (k : Int)) (-1, 0, 0)).2.1 (k : Int) ∧ sub (k : Int) ((List.range i).foldl (fun x (k : Nat) => pstep s t es x (k : Int)) (-1, 0, 0)).2.2) ∧
  (∀ v, has ((List.range i).foldl (fun x (k : Nat) => pstep s t es x (k : Int)) (-1, 0, 0)).2.1 v = false → ∃ k : Nat, k < i ∧ bit (k : Int) s = 1 ∧ bit (k : Int) t = 0 ∧ capOf es (k : Int) = ((List.range i).foldl (fun x (k : Nat) => pstep s t es x (k : Int)) (-1, 0, 0)).1 ∧ has (k : Int) v = false) ∧
  (∀ v, has ((List.range i).foldl (fun x (k : Nat) => pstep s t es x (k : Int)) (-1, 0, 0)).2.2 v = true → ∃ k : Nat, k < i ∧ bit (k : Int) s = 1 ∧ bit (k : Int) t = 0 ∧ capOf es (k : Int) = ((List.range i).foldl (fun x (k : Nat) => pstep s t es x (k : Int)) (-1, 0, 0)).1 ∧ has (k : Int) v = true)) := by
 intro i
 induction i with
 | zero => exact .inl ⟨rfl, fun k hk => by omega⟩
 | succ i ih =>
  have hpf := parted_fold (s := s) (t := t) hg i
  rw [List.range_succ, List.foldl_append]
  simp only [List.foldl_cons, List.foldl_nil]
  generalize (List.range i).foldl (fun x (k : Nat) => pstep s t es x (k : Int)) (-1, 0, 0) = x at ih hpf
  have hi0 : (0 : Int) ≤ (i : Int) := by omega
  by_cases hv : bit (i : Int) s = 1 ∧ bit (i : Int) t = 0
  ·have hc := capOf_in hg hi0
   have hst : pstep s t es x (i : Int) = if x.1 < 0 ∨ capOf es (i : Int) < x.1 then (capOf es (i : Int), (i : Int), (i : Int)) else if capOf es (i : Int) = x.1 then (x.1, iand x.2.1 (i : Int), ior x.2.2 (i : Int)) else x := by
    rw [pstep, if_neg (by omega)]
   rw [hst]
   by_cases hlt : x.1 < 0 ∨ capOf es (i : Int) < x.1
   ·rw [if_pos hlt]
    refine .inr ⟨hi0, hi0, fun k hk hs ht hcap => ?_, fun v hvv => ⟨i, by omega, hv.1, hv.2, rfl, hvv⟩, fun v hvv => ⟨i, by omega, hv.1, hv.2, rfl, hvv⟩⟩
    rcases Nat.lt_succ_iff_lt_or_eq.1 hk with h | h
    ·rcases hpf with ⟨_, h2⟩ | ⟨⟨k', k1, k2, k3, k4⟩, h2⟩
     ·exact absurd ⟨hs, ht⟩ (h2 k h)
     ·have := h2 k h hs ht
      have := capOf_in hg (z := (k' : Int)) (by omega)
      simp only at hcap
      omega
    ·subst h; exact ⟨sub_refl _, sub_refl _⟩
   ·rw [if_neg hlt]
    rcases ih with ⟨h1, _⟩ | ⟨l0, m0, hsub, hl, hm⟩
    ·exact absurd (.inl (by omega)) hlt
    by_cases heq : capOf es (i : Int) = x.1
    ·rw [if_pos heq]
     refine .inr ⟨iand0 _ _, ior0 _ _, fun k hk hs ht hcap => ?_, fun v hvv => ?_, fun v hvv => ?_⟩
     ·rcases Nat.lt_succ_iff_lt_or_eq.1 hk with h | h
      ·obtain ⟨h1, h2⟩ := hsub k h hs ht hcap
       exact ⟨fun v hv => h1 v (by simp only [has_iand, Bool.and_eq_true] at hv; exact hv.1), fun v hv => by simp only [has_ior, h2 v hv]; rfl⟩
      ·subst h
       exact ⟨fun v hv => by simp only [has_iand, Bool.and_eq_true] at hv; exact hv.2, fun v hv => by simp only [has_ior, hv, Bool.or_true]⟩
     ·simp only [has_iand, Bool.and_eq_false_iff] at hvv
      rcases hvv with hvv | hvv
      ·obtain ⟨k, k1, k2⟩ := hl v hvv; exact ⟨k, by omega, k2⟩
      ·exact ⟨i, by omega, hv.1, hv.2, heq, hvv⟩
     ·simp only [has_ior, Bool.or_eq_true] at hvv
      rcases hvv with hvv | hvv
      ·obtain ⟨k, k1, k2⟩ := hm v hvv; exact ⟨k, by omega, k2⟩
      ·exact ⟨i, by omega, hv.1, hv.2, heq, hvv⟩
    ·rw [if_neg heq]
     refine .inr ⟨l0, m0, fun k hk hs ht hcap => ?_, fun v hvv => ?_, fun v hvv => ?_⟩
     ·rcases Nat.lt_succ_iff_lt_or_eq.1 hk with h | h
      ·exact hsub k h hs ht hcap
      ·subst h; exact absurd hcap heq
     ·obtain ⟨k, k1, k2⟩ := hl v hvv; exact ⟨k, by omega, k2⟩
     ·obtain ⟨k, k1, k2⟩ := hm v hvv; exact ⟨k, by omega, k2⟩
  ·rw [pstep_skip hv hi0]
   rcases ih with ⟨h1, h2⟩ | ⟨l0, m0, hsub, hl, hm⟩
   ·refine .inl ⟨h1, fun k hk => ?_⟩
    rcases Nat.lt_succ_iff_lt_or_eq.1 hk with h | h
    ·exact h2 k h
    ·subst h; exact hv
   ·refine .inr ⟨l0, m0, fun k hk hs ht hcap => ?_, fun v hvv => ?_, fun v hvv => ?_⟩
    ·rcases Nat.lt_succ_iff_lt_or_eq.1 hk with h | h
     ·exact hsub k h hs ht hcap
     ·subst h; exact absurd ⟨hs, ht⟩ hv
    ·obtain ⟨k, k1, k2⟩ := hl v hvv; exact ⟨k, by omega, k2⟩
    ·obtain ⟨k, k1, k2⟩ := hm v hvv; exact ⟨k, by omega, k2⟩
def MinCut (n s t : Int) (es : List Arc) (z : Int) : Prop := Parts n s t z ∧ capOf es z = (parted n s t es).1
theorem MinCut.at_ (h : MinCut n s t es z) : ∃ k : Nat, z = (k : Int) ∧ k < 2 ^ n.toNat ∧ bit (k : Int) s = 1 ∧ bit (k : Int) t = 0 ∧ capOf es (k : Int) = (parted n s t es).1 := by
 obtain ⟨⟨z0, z1, z2, z3⟩, hc⟩ := h
 have hzn : ((z.toNat : Nat) : Int) = z := by omega
 exact ⟨z.toNat, hzn.symm, by omega, by rw [hzn]; exact z2, by rw [hzn]; exact z3, by rw [hzn]; exact hc⟩
theorem parted_low (hg : GOk n es 0) (h : MinCut n s t es z) (hmin : ∀ w, MinCut n s t es w → sub z w) : (parted n s t es).2.1 = z := by
 obtain ⟨k, rfl, k1, k2, k3, k4⟩ := h.at_
 have hps := parted_sides (s := s) (t := t) hg (2 ^ n.toNat)
 change (parted n s t es).1 = -1 ∧ _ ∨ (0 ≤ (parted n s t es).2.1 ∧ 0 ≤ (parted n s t es).2.2 ∧ _ ∧ _ ∧ _) at hps
 rcases hps with ⟨_, h2⟩ | ⟨l0, _, hsub, hl, _⟩
 ·exact absurd ⟨k2, k3⟩ (h2 k k1)
 ·refine sub_antisymm l0 (by omega) (hsub k k1 k2 k3 k4).1 fun v hv => ?_
  cases e : has (parted n s t es).2.1 v
  ·obtain ⟨j, j1, j2, j3, j4, j5⟩ := hl v e
   have := hmin (j : Int) ⟨⟨by omega, by omega, j2, j3⟩, j4⟩ v hv
   rw [j5] at this; cases this
  ·rfl
theorem MinCut.clo (h : MinCut n s t es z) (hf : FlOk n s t es f) (hv : gone es f s = (parted n s t es).1) : Clo es f false z :=
 clo_of_shut h.1.1 (side_shut h.1.1 hf.fin (by rw [side_value hf h.1, hv, h.2])) hf.fin
theorem MinCut.exists_ (hok : NOk n s t es) : ∃ z, MinCut n s t es z := by
 have hg := hok.toGOk
 have h4 := hok.s0; have h5 := hok.s1; have h6 := hok.t0; have h7 := hok.t1; have hne := hok.ne
 rcases parted_fold (s := s) (t := t) hg (2 ^ n.toNat) with ⟨_, h2⟩ | ⟨⟨k, k1, k2, k3, k4⟩, _⟩
 ·refine absurd ⟨?_, ?_⟩ (h2 (2 ^ s.toNat) (Nat.pow_lt_pow_right (by decide) (by omega)))
  ·rw [bit_yes (Int.natCast_nonneg _), ← pow_nat, ← Int.one_mul (2 ^ s.toNat), has_pow]; simp
  ·rw [bit_no (Int.natCast_nonneg _), ← pow_nat, ← Int.one_mul (2 ^ s.toNat), has_pow]; simp; omega
 ·exact ⟨(k : Int), ⟨by omega, by omega, k2, k3⟩, k4.symm⟩
theorem MinCut.of_clo (hz : Parts n s t z) (hf : FlOk n s t es f) (hv : gone es f s = (parted n s t es).1) (hc : Clo es f false z) : MinCut n s t es z :=
 ⟨hz, by rw [← hv, ← side_value hf hz, side_eq hz.1 hf.fin.len (shut_of_clo hz.1 hc hf.fin)]⟩
theorem spread_low (hf : FlOk n s t es f) (hv : gone es f s = (parted n s t es).1) (h : SprOk es f false n s z) : MinCut n s t es z ∧ (parted n s t es).2.1 = z := by
 obtain ⟨hs, hc⟩ := h
 have hmin : ∀ w, MinCut n s t es w → sub z w := fun w hw => hs.min w (hw.clo hf hv) ((bit_yes hw.1.1).1 hw.1.2.2.1)
 have hP : Parts n s t z := by
  refine ⟨hs.z0, lt_has hs.z0 hs.lt, (bit_yes hs.z0).2 hs.at_, (bit_no hs.z0).2 ?_⟩
  obtain ⟨w, hw⟩ := MinCut.exists_ hf.net
  cases e : has z t.toNat
  ·rfl
  ·have := hmin w hw _ e
   rw [(bit_no hw.1.1).1 hw.1.2.2.2] at this; cases this
 have hM := MinCut.of_clo hP hf hv hc
 exact ⟨hM, parted_low hf.net.toGOk hM hmin⟩
theorem pw16 {v : Int} (_h0 : 0 ≤ v) (h1 : v < 16) : (0 : Int) ≤ 1 * 2 ^ v.toNat ∧ (1 : Int) * 2 ^ v.toNat ≤ 32768 := by
 have h : 2 ^ v.toNat ≤ 32768 := Nat.pow_le_pow_right (n := 2) (i := v.toNat) (j := 15) (by decide) (by omega)
 rw [Int.one_mul, pow_nat]
 exact ⟨Int.natCast_nonneg _, Int.ofNat_le.2 h⟩
theorem bit_iand (ha : 0 ≤ a) (hb : 0 ≤ b) (v : Int) : bit (iand a b) v = if bit a v = 1 ∧ bit b v = 1 then 1 else 0 := by
 rw [bit_has v (iand0 _ _), bit_has v ha, bit_has v hb, has_iand]
 cases has a v.toNat <;> cases has b v.toNat <;> rfl
theorem bit_ior (ha : 0 ≤ a) (hb : 0 ≤ b) (v : Int) : bit (ior a b) v = if bit a v = 1 ∨ bit b v = 1 then 1 else 0 := by
 rw [bit_has v (ior0 _ _), bit_has v ha, bit_has v hb, has_ior]
 cases has a v.toNat <;> cases has b v.toNat <;> rfl
theorem cap_sub (ha : 0 ≤ a) (hb : 0 ≤ b) : ∀ {es : List Arc}, (∀ x ∈ es, 0 ≤ x.cap) → capOf es (iand a b) + capOf es (ior a b) ≤ capOf es a + capOf es b
 | [], _ => by simp [capOf]
 | x :: r, h => by
  have h1 := cap_sub ha hb (es := r) (fun y hy => h y (List.mem_cons_of_mem _ hy))
  have h2 := h x List.mem_cons_self
  simp only [capOf]
  rw [bit_iand ha hb, bit_iand ha hb, bit_ior ha hb, bit_ior ha hb]
  rcases bit_01 x.src ha with e1 | e1 <;> rcases bit_01 x.dst ha with e2 | e2 <;> rcases bit_01 x.src hb with e3 | e3 <;> rcases bit_01 x.dst hb with e4 | e4 <;> rw [e1, e2, e3, e4] <;> simp <;> omega
theorem MinCut.min (hg : GOk n es 0) {w : Int} (h : MinCut n s t es z) (hw : Parts n s t w) : capOf es z ≤ capOf es w := by
 obtain ⟨w0, w1, w2, w3⟩ := hw
 have hwn : ((w.toNat : Nat) : Int) = w := by omega
 rw [h.2]
 rcases parted_fold (s := s) (t := t) hg (2 ^ n.toNat) with ⟨_, h2⟩ | ⟨_, h2⟩
 ·exact absurd (by rw [hwn]; exact ⟨w2, w3⟩) (h2 w.toNat (by omega))
 ·have := h2 w.toNat (by omega) (by rw [hwn]; exact w2) (by rw [hwn]; exact w3)
  rwa [hwn] at this
theorem MinCut.meet (hg : GOk n es 0) (h1 : MinCut n s t es a) (h2 : MinCut n s t es b) : MinCut n s t es (iand a b) ∧ MinCut n s t es (ior a b) := by
 have hl1 : ∀ v, n.toNat ≤ v → has a v = false := fun v hv => has_lt h1.1.1 h1.1.2.1 hv
 have hl2 : ∀ v, n.toNat ≤ v → has b v = false := fun v hv => has_lt h2.1.1 h2.1.2.1 hv
 have p1 : Parts n s t (iand a b) := ⟨iand0 _ _, lt_has (iand0 _ _) fun v hv => by rw [has_iand, hl1 v hv]; rfl, by rw [bit_iand h1.1.1 h2.1.1, if_pos ⟨h1.1.2.2.1, h2.1.2.2.1⟩], by rw [bit_iand h1.1.1 h2.1.1, if_neg (by rw [h1.1.2.2.2]; simp)]⟩
 have p2 : Parts n s t (ior a b) := ⟨ior0 _ _, lt_has (ior0 _ _) fun v hv => by rw [has_ior, hl1 v hv, hl2 v hv]; rfl, by rw [bit_ior h1.1.1 h2.1.1, if_pos (.inl h1.1.2.2.1)], by rw [bit_ior h1.1.1 h2.1.1, if_neg (by rw [h1.1.2.2.2, h2.1.2.2.2]; simp)]⟩
 have hs := cap_sub h1.1.1 h2.1.1 (es := es) (fun x hx => (hg.arc x hx).2.2.2.2.1)
 have m1 := h1.min hg p1
 have m2 := h1.min hg p2
 have e1 := h1.2
 have e2 := h2.2
 exact ⟨⟨p1, by omega⟩, ⟨p2, by omega⟩⟩
theorem MinCut.low (hok : NOk n s t es) : MinCut n s t es (parted n s t es).2.1 ∧ ∀ w, MinCut n s t es w → sub (parted n s t es).2.1 w := by
 have hg := hok.toGOk
 have hps := parted_sides (s := s) (t := t) hg (2 ^ n.toNat)
 obtain ⟨z, hz⟩ := MinCut.exists_ hok
 obtain ⟨k, rfl, k1, k2, k3, k4⟩ := hz.at_
 change (parted n s t es).1 = -1 ∧ _ ∨ (0 ≤ (parted n s t es).2.1 ∧ 0 ≤ (parted n s t es).2.2 ∧ _ ∧ _ ∧ _) at hps
 rcases hps with ⟨_, h2⟩ | ⟨l0, m0, hsub, hl, _⟩
 ·exact absurd ⟨k2, k3⟩ (h2 k k1)
 have hall : ∀ w, MinCut n s t es w → sub (parted n s t es).2.1 w := fun w hw => by
  obtain ⟨j, rfl, j1, j2, j3, j4⟩ := hw.at_
  exact (hsub j j1 j2 j3 j4).1
 have key : ∀ m : Nat, ∃ w, MinCut n s t es w ∧ ∀ v, v < m → has (parted n s t es).2.1 v = false → has w v = false := by
  intro m
  induction m with
  | zero => exact ⟨_, hz, fun v hv => by omega⟩
  | succ m ih =>
   obtain ⟨w, hw, h1⟩ := ih
   cases e : has (parted n s t es).2.1 m
   ·obtain ⟨j, j1, j2, j3, j4, j5⟩ := hl m e
    refine ⟨iand w (j : Int), (hw.meet hg ⟨⟨by omega, by omega, j2, j3⟩, j4⟩).1, fun v hv hvv => ?_⟩
    rw [has_iand]
    rcases Nat.lt_succ_iff_lt_or_eq.1 hv with h | h
    ·rw [h1 v h hvv]; rfl
    ·subst h; rw [j5]; cases has w v <;> rfl
   ·refine ⟨w, hw, fun v hv hvv => ?_⟩
    rcases Nat.lt_succ_iff_lt_or_eq.1 hv with h | h
    ·exact h1 v h hvv
    ·subst h; rw [e] at hvv; cases hvv
 obtain ⟨w, hw, h1⟩ := key n.toNat
 have hwe : w = (parted n s t es).2.1 := by
  refine sub_antisymm hw.1.1 l0 (fun v hv => ?_) (hall w hw)
  cases e : has (parted n s t es).2.1 v
  ·by_cases hvn : v < n.toNat
   ·rw [h1 v hvn e] at hv; cases hv
   ·rw [has_lt hw.1.1 hw.1.2.1 (by omega)] at hv; cases hv
  ·rfl
 exact ⟨hwe ▸ hw, hall⟩
end Go.Ab
namespace Go.Ab
def backA (a : Arc) : Arc := ⟨a.dst, a.src, a.cap⟩
def bothA (es : List Arc) : List Arc := es ++ es.map backA
end Go.Ab
