/- Plain laws, one behind the other. -/
import Derived.Test.YtcmaffldmodacaaAbA
namespace Go.Ab
theorem bs : (∀ a b : Bool, ((a || b) = true) = (a = true ∨ b = true)) ∧ (∀ a b : Bool, ((a && b) = true) = (a = true ∧ b = true)) ∧ (∀ a : Bool, ((!a) = true) = (a = false)) ∧
    (∀ (p : Prop) [Decidable p], (decide p = true) = p) ∧ (∀ a b : Bool, ((a || b) = false) = (a = false ∧ b = false)) ∧ (∀ a b : Bool, ((a && b) = false) = (a = false ∨ b = false)) ∧
    (∀ a : Bool, ((!a) = false) = (a = true)) ∧ (∀ (p : Prop) [Decidable p], (decide p = false) = ¬ p) ∧ ((!false) = true) ∧ ((!true) = false) :=
  ⟨fun a b => by simp, fun a b => by simp, fun a => by simp, fun p _ => by simp, fun a b => by simp, fun a b => by cases a <;> simp, fun a => by simp, fun p _ => by simp, rfl, rfl⟩
theorem lens {α : Type} : (∀ a b : List α, (a ++ b).length = a.length + b.length) ∧ (∀ (x : α) (a : List α), (x :: a).length = a.length + 1) ∧ (([] : List α).length = 0) ∧
    (∀ (a : List α) i x, (a.set i x).length = a.length) ∧ (∀ n (x : α), (List.replicate n x).length = n) ∧ (∀ (a : List α) n, (a.drop n).length = a.length - n) :=
  ⟨fun _ _ => List.length_append, fun _ _ => rfl, rfl, fun _ _ _ => List.length_set, fun _ _ => List.length_replicate, fun _ _ => List.length_drop⟩
theorem getD_lt {α : Type} (xs : List α) (d : α) (i : Nat) (h : i < xs.length) : xs.getD i d = xs[i] := by simp [List.getD_eq_getElem?_getD, List.getElem?_eq_getElem h]
theorem getD_mem {α : Type} {xs : List α} {d : α} {i : Nat} (h : i < xs.length) : xs.getD i d ∈ xs := by rw [getD_lt xs d i h]; exact List.getElem_mem h
theorem getD_ge {α : Type} (xs : List α) (d : α) (i : Nat) (h : xs.length ≤ i) : xs.getD i d = d := by simp [List.getD_eq_getElem?_getD, List.getElem?_eq_none h]
theorem list_ext {α : Type} {xs ys : List α} (d : α) (hl : xs.length = ys.length) (h : ∀ i, i < xs.length → xs.getD i d = ys.getD i d) : xs = ys := by
  refine List.ext_getElem hl fun i h1 h2 => ?_
  have := h i h1
  rwa [getD_lt xs d i h1, getD_lt ys d i h2] at this
theorem drop_getD {α : Type} (xs : List α) (d : α) (i : Nat) (h : i < xs.length) : xs.drop i = xs.getD i d :: xs.drop (i + 1) := by
  rw [getD_lt xs d i h]; exact List.drop_eq_getElem_cons h
theorem take_getD {α : Type} (xs : List α) (d : α) (i : Nat) (h : i < xs.length) : xs.take (i + 1) = xs.take i ++ [xs.getD i d] := by
  rw [getD_lt xs d i h]; exact (List.take_append_getElem h).symm
theorem getD_set_self {α : Type} (l : List α) (i : Nat) (a d : α) (h : i < l.length) : (l.set i a).getD i d = a := by
  rw [List.getD_eq_getElem?_getD, List.getElem?_set_self h]; rfl
theorem getD_set_ne {α : Type} (l : List α) (i j : Nat) (a d : α) (h : i ≠ j) : (l.set i a).getD j d = l.getD j d := by
  rw [List.getD_eq_getElem?_getD, List.getElem?_set_ne h, ← List.getD_eq_getElem?_getD]
theorem rows_nil {α : Type} (n i : Nat) : (List.replicate n ([] : List α)).getD i [] = [] := by
  rw [List.getD_eq_getElem?_getD, List.getElem?_replicate]
  split <;> rfl
end Go.Ab
namespace Go.Ab
theorem mask32 {y : Int} (h0 : 0 ≤ y) (h1 : y ≤ 4294967295) : iand y 4294967295 = y := by
  unfold iand
  rw [show (4294967295 : Int).toNat = 2 ^ 32 - 1 by decide, Nat.and_two_pow_sub_one_eq_mod, Nat.mod_eq_of_lt (by omega)]
  omega
theorem rep_first {w : Int} {n : Nat} : List.take 0 (List.replicate n (0 : Int)) ++ List.take (min 1 n) [w] ++ List.drop (0 + min 1 n) (List.replicate n (0 : Int)) = List.replicate (min 1 n) w ++ List.replicate (n - min 1 n) 0 := by
  rcases Nat.eq_zero_or_pos n with h | h
  · subst h; simp
  · rw [Nat.min_eq_left h]
    simp
theorem rep_step {w : Int} {n k : Nat} {b : List Int} (hb : b = List.replicate k w ++ List.replicate (n - k) 0) (hk : k ≤ n) :
    List.take k b ++ List.take (min (List.length (List.take k b)) (n - k)) (List.take k b) ++ List.drop (k + min (List.length (List.take k b)) (n - k)) b = List.replicate (k + min (List.length (List.take k b)) (n - k)) w ++ List.replicate (n - (k + min (List.length (List.take k b)) (n - k))) 0 := by
  have h1 : List.take k b = List.replicate k w := by rw [hb, List.take_left' (by simp)]
  rw [h1, List.length_replicate, List.take_replicate, List.replicate_append_replicate]
  have h2 : List.drop (k + min k (n - k)) b = List.replicate (n - (k + min k (n - k))) 0 := by
    rw [hb, List.drop_append, List.length_replicate, List.drop_eq_nil_of_le (by simp), List.nil_append, List.drop_replicate]
    congr 1; omega
  rw [h2]
  congr 2
  omega
end Go.Ab
namespace Go.Ab
structure RevTo (d x : List Int) (i : Nat) (j : Int) : Prop where
  ij : j + i + 1 = d.length
  len : x.length = d.length
  at_ : ∀ p : Nat, p < d.length → x.getD p 0 = if (p < i ∨ j < p) then d.getD (d.length - 1 - p) 0 else d.getD p 0
end Go.Ab
namespace Go.Ab
theorem nodup_len {α : Type} [DecidableEq α] : ∀ {l m : List α}, l.Nodup → (∀ x ∈ l, x ∈ m) → l.length ≤ m.length
  | [], _, _, _ => by simp
  | a :: l, m, hn, h => by
    have hn' := List.nodup_cons.1 hn
    have ha := h a List.mem_cons_self
    have h1 := nodup_len (l := l) (m := m.erase a) hn'.2 (fun x hx => (List.mem_erase_of_ne (by rintro rfl; exact hn'.1 hx)).2 (h x (List.mem_cons_of_mem _ hx)))
    rw [List.length_erase_of_mem ha] at h1
    have : 0 < m.length := List.length_pos_of_mem ha
    simp only [List.length_cons]
    omega
end Go.Ab
namespace Go.Ab
def treeOk (up : List Int) : Prop := ∀ k, k < up.length → 0 ≤ up.getD k 0 ∧ up.getD k 0 ≤ max 0 ((k : Int) - 1)
instance (up : List Int) : Decidable (treeOk up) := by unfold treeOk; infer_instance
end Go.Ab
namespace Go.Ab
def okL {α : Type} (e : Int) (xs : List α) : List α := if e = 0 then xs else []
def okI (e x : Int) : Int := if e = 0 then x else 0
theorem okL_ok {α : Type} {e : Int} (xs : List α) (h : e = 0) : okL e xs = xs := by rw [okL, if_pos h]
theorem okI_ok {e : Int} (x : Int) (h : e = 0) : okI e x = x := by rw [okI, if_pos h]
theorem okL_no {α : Type} {e : Int} (xs : List α) (h : e ≠ 0) : okL e xs = [] := by rw [okL, if_neg h]
theorem okI_no {e : Int} (x : Int) (h : e ≠ 0) : okI e x = 0 := by rw [okI, if_neg h]
def arcsErr (n least : Int) : List Arc → Int
  | [] => 0
  | a :: r => if a.src < 0 ∨ n ≤ a.src ∨ a.dst < 0 ∨ n ≤ a.dst then 4 else if a.cap < least ∨ 10000 < a.cap then 1 else arcsErr n least r
def graphErr (n : Int) (es : List Arc) (least : Int) : Int := if n < 1 ∨ 12 < n then 1 else if 60 < es.length then 2 else arcsErr n least es
def ArcOk (n least : Int) (a : Arc) : Prop := 0 ≤ a.src ∧ a.src < n ∧ 0 ≤ a.dst ∧ a.dst < n ∧ least ≤ a.cap ∧ a.cap ≤ 10000
theorem arcsErr_zero {n least : Int} : ∀ {es : List Arc}, arcsErr n least es = 0 → ∀ a ∈ es, ArcOk n least a
  | [], _, a, ha => by cases ha
  | b :: r, h, a, ha => by
    unfold arcsErr at h
    split at h
    · cases h
    · split at h
      · cases h
      · rename_i h1 h2
        rcases List.mem_cons.1 ha with rfl | ha
        · exact ⟨by omega, by omega, by omega, by omega, by omega, by omega⟩
        · exact arcsErr_zero h a ha
structure GOk (n : Int) (es : List Arc) (least : Int) : Prop where
  n1 : 1 ≤ n
  n2 : n ≤ 12
  len : es.length ≤ 60
  arc : ∀ a ∈ es, ArcOk n least a
theorem graphErr_ok {n : Int} {es : List Arc} {least : Int} (h : graphErr n es least = 0) : GOk n es least := by
  unfold graphErr at h
  split at h
  · cases h
  · split at h
    · cases h
    · exact ⟨by omega, by omega, by omega, arcsErr_zero h⟩
theorem GOk.at_ {n : Int} {es : List Arc} {least : Int} (h : GOk n es least) {i : Nat} (hi : i < es.length) : ArcOk n least (es.getD i default) := h.arc _ (getD_mem hi)
structure NOk (n s t : Int) (es : List Arc) : Prop extends GOk n es 0 where
  s0 : 0 ≤ s
  s1 : s < n
  t0 : 0 ≤ t
  t1 : t < n
  ne : s ≠ t
end Go.Ab
namespace Go.Ab
def bump (f : Arc → Int) (n : Int) (es : List Arc) : List Int := es.foldl (fun l a => l.set (f a).toNat (l.getD (f a).toNat 0 + 1)) (List.replicate n.toNat 0)
theorem bump_step (f : Arc → Int) (n : Int) (es : List Arc) (i : Nat) (hi : i < es.length) : bump f n (es.take (i + 1)) = (bump f n (es.take i)).set (f (es.getD i default)).toNat ((bump f n (es.take i)).getD (f (es.getD i default)).toNat 0 + 1) := by
  unfold bump
  rw [take_getD es default i hi, List.foldl_append]; rfl
theorem bump_all (f : Arc → Int) (n : Int) (es : List Arc) : (bump f n es).length = n.toNat ∧ ∀ k, 0 ≤ (bump f n es).getD k 0 ∧ (bump f n es).getD k 0 ≤ es.length := by
  have key : ∀ (es : List Arc) (l : List Int) (b : Nat), (l.length = n.toNat ∧ ∀ k, 0 ≤ l.getD k 0 ∧ l.getD k 0 ≤ b) →
      (es.foldl (fun l a => l.set (f a).toNat (l.getD (f a).toNat 0 + 1)) l).length = n.toNat ∧ ∀ k, 0 ≤ (es.foldl (fun l a => l.set (f a).toNat (l.getD (f a).toNat 0 + 1)) l).getD k 0 ∧ (es.foldl (fun l a => l.set (f a).toNat (l.getD (f a).toNat 0 + 1)) l).getD k 0 ≤ (b + es.length : Nat) := by
    intro es
    induction es with
    | nil => intro l b h; simpa using h
    | cons a r ih =>
      intro l b h
      have := ih (l.set (f a).toNat (l.getD (f a).toNat 0 + 1)) (b + 1) ⟨by simp [h.1], fun k => ?_⟩
      · simp only [List.foldl_cons, List.length_cons]
        refine ⟨this.1, fun k => ?_⟩
        have h2 := this.2 k
        constructor
        · exact h2.1
        · refine Int.le_trans h2.2 ?_
          omega
      · by_cases hk : (f a).toNat = k
        · subst hk
          by_cases hl : (f a).toNat < l.length
          · rw [getD_set_self _ _ _ _ hl]
            have := h.2 (f a).toNat
            omega
          · rw [getD_ge _ _ _ (by simpa using Nat.le_of_not_lt hl)]
            omega
        · rw [getD_set_ne _ _ _ _ _ hk]
          have := h.2 k
          omega
  have := key es (List.replicate n.toNat 0) 0 ⟨by simp, fun k => by
    by_cases hk : k < n.toNat
    · rw [List.getD_eq_getElem?_getD, List.getElem?_replicate, if_pos hk]; simp
    · rw [getD_ge _ _ _ (by simpa using Nat.le_of_not_lt hk)]; simp⟩
  rw [Nat.zero_add] at this
  exact this
def without (es : List Arc) (k : Int) : List Arc := es.take k.toNat ++ es.drop (k.toNat + 1)
end Go.Ab
namespace Go.Ab
end Go.Ab
namespace Go.Ab
def idxOf {α : Type} (p : α → Bool) : List α → Int
  | [] => -1
  | x :: r => if p x then 0 else if idxOf p r < 0 then -1 else idxOf p r + 1
theorem idxOf_ge {α : Type} {p : α → Bool} : ∀ {l : List α}, -1 ≤ idxOf p l ∧ idxOf p l < l.length
  | [] => by simp [idxOf]
  | x :: r => by
    have := idxOf_ge (p := p) (l := r)
    simp only [idxOf, List.length_cons]
    split
    · omega
    · split <;> omega
theorem idxOf_at {α : Type} {p : α → Bool} {d : α} : ∀ {l : List α} {i : Nat}, (∀ j, j < i → p (l.getD j d) = false) → i < l.length → p (l.getD i d) = true → idxOf p l = i
  | [], _, _, h, _ => by simp at h
  | x :: r, 0, _, _, h => by
    simp only [List.getD_cons_zero] at h
    simp only [idxOf, h, if_true]; rfl
  | x :: r, i + 1, h, hi, ht => by
    have h0 := h 0 (by omega)
    simp only [List.getD_cons_zero] at h0
    have hr := idxOf_at (p := p) (d := d) (l := r) (i := i) (fun j hj => by simpa using h (j + 1) (by omega)) (by simpa using hi) (by simpa using ht)
    simp only [idxOf, h0, hr]
    rw [if_neg (by simp), if_neg (by omega)]; omega
theorem idxOf_none {α : Type} {p : α → Bool} {d : α} : ∀ {l : List α}, (∀ j, j < l.length → p (l.getD j d) = false) → idxOf p l = -1
  | [], _ => rfl
  | x :: r, h => by
    have h0 := h 0 (by simp)
    simp only [List.getD_cons_zero] at h0
    have hr := idxOf_none (p := p) (d := d) (l := r) (fun j hj => by simpa using h (j + 1) (by simpa using hj))
    simp only [idxOf, h0, hr]; rfl
theorem any_idx {α : Type} {p : α → Bool} : ∀ {l : List α}, (decide ((0 : Int) ≤ idxOf p l)) = l.any p
  | [] => by simp [idxOf]
  | x :: r => by
    have hr := any_idx (p := p) (l := r)
    have hg := idxOf_ge (p := p) (l := r)
    rw [List.any_cons, ← hr, Bool.eq_iff_iff, decide_eq_true_iff, Bool.or_eq_true, decide_eq_true_iff]
    rw [show idxOf p (x :: r) = (if p x = true then 0 else if idxOf p r < 0 then -1 else idxOf p r + 1) from rfl]
    by_cases hx : p x = true
    · rw [if_pos hx]; simp [hx]
    · rw [if_neg hx]
      constructor
      · intro h; right; split at h <;> omega
      · rintro (h | h)
        · exact absurd h hx
        · split <;> omega
theorem any_at {α : Type} {p : α → Bool} {l : List α} {d : α} {i : Nat} (hi : i < l.length) (h : p (l.getD i d) = true) : l.any p = true := List.any_eq_true.2 ⟨_, getD_mem hi, h⟩
theorem any_none {α : Type} {p : α → Bool} {l : List α} {d : α} (h : ∀ j, j < l.length → p (l.getD j d) = false) : l.any p = false := by
  rw [Bool.eq_false_iff]
  intro h1
  obtain ⟨x, hx, hp⟩ := List.any_eq_true.1 h1
  obtain ⟨k, hk, rfl⟩ := List.getElem_of_mem hx
  have := h k hk
  rw [getD_lt l d k hk] at this
  rw [this] at hp; cases hp
theorem any_no {α : Type} {p : α → Bool} {l : List α} (h : l.any p = false) : ∀ x ∈ l, p x = false := fun x hx => by
  cases e : p x
  · rfl
  · rw [List.any_eq_true.2 ⟨x, hx, e⟩] at h; cases h
end Go.Ab
namespace Go.Ab
def gone : List Arc → List Int → Int → Int
  | a :: r, x :: q, v => (if a.src = v then x else 0) - (if a.dst = v then x else 0) + gone r q v
  | _, _, _ => 0
def over : List Arc → List Int → Bool
  | a :: r, x :: q => decide (x < 0) || decide (a.cap < x) || over r q
  | _, _ => false
def lost (n s t : Int) (es : List Arc) (f : List Int) : Prop := ∃ k, k < n.toNat ∧ (k : Int) ≠ s ∧ (k : Int) ≠ t ∧ gone es f (k : Int) ≠ 0
instance (n s t : Int) (es : List Arc) (f : List Int) : Decidable (lost n s t es f) := by unfold lost; infer_instance
structure FIn (es : List Arc) (f : List Int) : Prop where
  len : f.length = es.length
  at_ : ∀ k, k < es.length → 0 ≤ f.getD k 0 ∧ f.getD k 0 ≤ (es.getD k default).cap
end Go.Ab
namespace Go.Ab
theorem getD_zeros (k n : Nat) : (List.replicate n (0 : Int)).getD k 0 = 0 := by
  rw [List.getD_eq_getElem?_getD, List.getElem?_replicate]
  split <;> rfl
structure FlOk (n s t : Int) (es : List Arc) (f : List Int) : Prop where
  net : NOk n s t es
  fin : FIn es f
  kept : ∀ k : Nat, (k : Int) ≠ s → (k : Int) ≠ t → gone es f (k : Int) = 0
end Go.Ab
namespace Go.Ab
def bit (σ v : Int) : Int := iand (σ / 2 ^ v.toNat) 1
theorem shr_in {σ : Int} (v : Int) (h0 : 0 ≤ σ) (h1 : σ ≤ 65535) : 0 ≤ σ / 2 ^ v.toNat ∧ σ / 2 ^ v.toNat ≤ 65535 := by
  have hp : (0 : Int) < 2 ^ v.toNat := Int.pow_pos (by decide)
  refine ⟨Int.ediv_nonneg h0 (Int.le_of_lt hp), ?_⟩
  have := Int.ediv_le_self (2 ^ v.toNat) h0
  omega
theorem pow_le12 {n : Nat} (h : n ≤ 12) : 2 ^ n ≤ 4096 := Nat.pow_le_pow_right (by decide) h
end Go.Ab
namespace Go.Ab
def sorted (zs : List Int) : List Int := zs.mergeSort fun x y => decide (x ≤ y)
def isFull (n : Nat) (l : List Int) : Prop := l.length = n ∧ ∀ k, k < n → ((k : Nat) : Int) ∈ l
end Go.Ab
namespace Go.Ab
end Go.Ab
namespace Go.Ab
def has (z : Int) (v : Nat) : Bool := z.toNat.testBit v
def sub (a b : Int) : Prop := ∀ v, has a v = true → has b v = true
end Go.Ab
namespace Go.Ab
def Res (es : List Arc) (f : List Int) (k : Int) (b : Bool) (u v : Int) : Prop :=
  0 ≤ k ∧ k < es.length ∧ (if b = true then (es.getD k.toNat default).dst = u ∧ (es.getD k.toNat default).src = v ∧ 0 < f.getD k.toNat 0 else (es.getD k.toNat default).src = u ∧ (es.getD k.toNat default).dst = v ∧ f.getD k.toNat 0 < (es.getD k.toNat default).cap)
structure Bfs (es : List Arc) (f : List Int) (s n : Int) (fr : List Int) (st : List (Int × Bool)) (todo : List Int) (r : Nat → Nat) (c : Nat) : Prop where
  l1 : fr.length = 12
  l2 : st.length = 12
  src : fr.getD s.toNat 0 = s
  lo : ∀ v, v < 12 → -1 ≤ fr.getD v 0
  vis : ∀ v : Nat, v < 12 → 0 ≤ fr.getD v 0 → (v : Int) < n ∧ fr.getD v 0 < n ∧ 0 ≤ fr.getD (fr.getD v 0).toNat 0 ∧ r v < c ∧
    ((v : Int) ≠ s → Res es f (st.getD v (0, false)).1 (st.getD v (0, false)).2 (fr.getD v 0) (v : Int) ∧ r (fr.getD v 0).toNat < r v)
  todo_ : ∀ u ∈ todo, 0 ≤ u ∧ u < n ∧ 0 ≤ fr.getD u.toNat 0
theorem bit_nat (m v : Nat) : bit (m : Int) (v : Int) = (((m / 2 ^ v) % 2 : Nat) : Int) := by
  unfold bit iand
  have h1 : ((m : Int) / 2 ^ (v : Int).toNat).toNat = m / 2 ^ v := by
    rw [show ((v : Int).toNat) = v by omega, show (2 : Int) ^ v = ((2 ^ v : Nat) : Int) by norm_cast, ← Int.natCast_ediv]
    exact Int.toNat_natCast _
  rw [h1]
  exact congrArg _ (Nat.and_one_is_mod _)
end Go.Ab
namespace Go.Ab
end Go.Ab
namespace Go.Ab
def xOf (tr : Bool) (a : Arc) : Int := cond tr a.dst a.src
def yOf (tr : Bool) (a : Arc) : Int := cond tr a.src a.dst
def CloAt (es : List Arc) (f : List Int) (tr : Bool) (w : Int) (k : Nat) : Prop :=
  (f.getD k 0 < (es.getD k default).cap → has w (xOf tr (es.getD k default)).toNat = true → has w (yOf tr (es.getD k default)).toNat = true) ∧
  (0 < f.getD k 0 → has w (yOf tr (es.getD k default)).toNat = true → has w (xOf tr (es.getD k default)).toNat = true)
def Clo (es : List Arc) (f : List Int) (tr : Bool) (w : Int) : Prop := ∀ k, k < es.length → CloAt es f tr w k
structure Sp (es : List Arc) (f : List Int) (tr : Bool) (n a z : Int) : Prop where
  z0 : 0 ≤ z
  lt : ∀ v, n.toNat ≤ v → has z v = false
  at_ : has z a.toNat = true
  min : ∀ w, Clo es f tr w → has w a.toNat = true → sub z w
structure Pass (es : List Arc) (f : List Int) (tr : Bool) (z0 z : Int) (k : Nat) : Prop where
  sub_ : sub z0 z
  clo : z = z0 → ∀ j, j < k → CloAt es f tr z j
end Go.Ab
namespace Go.Ab
def backA (a : Arc) : Arc := ⟨a.dst, a.src, a.cap⟩
def bothA (es : List Arc) : List Arc := es ++ es.map backA
end Go.Ab
