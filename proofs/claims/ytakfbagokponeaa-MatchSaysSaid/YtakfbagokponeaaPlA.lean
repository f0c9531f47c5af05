/- Plain laws, one behind the other. -/
import Derived.Test.YtakfbagokponeaaAbA
/- Plain laws of lists. -/
namespace Go.Ab
/-- What the tests of a walk come to: one bundle of rules. -/
theorem bs : (∀ a b : Bool, ((a || b) = true) = (a = true ∨ b = true)) ∧ (∀ a b : Bool, ((a && b) = true) = (a = true ∧ b = true)) ∧ (∀ a : Bool, ((!a) = true) = (a = false)) ∧
    (∀ (p : Prop) [Decidable p], (decide p = true) = p) ∧ (∀ a b : Bool, ((a || b) = false) = (a = false ∧ b = false)) ∧ (∀ a b : Bool, ((a && b) = false) = (a = false ∨ b = false)) ∧
    (∀ a : Bool, ((!a) = false) = (a = true)) ∧ (∀ (p : Prop) [Decidable p], (decide p = false) = ¬ p) ∧ ((!false) = true) ∧ ((!true) = false) :=
  ⟨fun a b => by simp, fun a b => by simp, fun a => by simp, fun p _ => by simp, fun a b => by simp, fun a b => by cases a <;> simp, fun a => by simp, fun p _ => by simp, rfl, rfl⟩
/-- Lengths: one bundle of rules. -/
theorem lens {α : Type} : (∀ a b : List α, (a ++ b).length = a.length + b.length) ∧ (∀ (x : α) (a : List α), (x :: a).length = a.length + 1) ∧ (([] : List α).length = 0) ∧
    (∀ (a : List α) i x, (a.set i x).length = a.length) ∧ (∀ n (x : α), (List.replicate n x).length = n) ∧ (∀ (a : List α) n, (a.drop n).length = a.length - n) :=
  ⟨fun _ _ => List.length_append, fun _ _ => rfl, rfl, fun _ _ _ => List.length_set, fun _ _ => List.length_replicate, fun _ _ => List.length_drop⟩
theorem getD_lt {α : Type} (xs : List α) (d : α) (i : Nat) (h : i < xs.length) : xs.getD i d = xs[i] := by simp [List.getD_eq_getElem?_getD, List.getElem?_eq_getElem h]
theorem getD_mem {α : Type} {xs : List α} {d : α} {i : Nat} (h : i < xs.length) : xs.getD i d ∈ xs := by rw [getD_lt xs d i h]; exact List.getElem_mem h
theorem list_ext {α : Type} {xs ys : List α} (d : α) (hl : xs.length = ys.length) (h : ∀ i, i < xs.length → xs.getD i d = ys.getD i d) : xs = ys := by
  refine List.ext_getElem hl fun i h1 h2 => ?_
  have := h i h1
  rwa [getD_lt xs d i h1, getD_lt ys d i h2] at this
theorem getD_set_self {α : Type} (l : List α) (i : Nat) (a d : α) (h : i < l.length) : (l.set i a).getD i d = a := by
  rw [List.getD_eq_getElem?_getD, List.getElem?_set_self h]; rfl
theorem getD_set_ne {α : Type} (l : List α) (i j : Nat) (a d : α) (h : i ≠ j) : (l.set i a).getD j d = l.getD j d := by
  rw [List.getD_eq_getElem?_getD, List.getElem?_set_ne h, ← List.getD_eq_getElem?_getD]
end Go.Ab

/- Of a value that is repeated: the plain laws. -/
namespace Go.Ab
theorem mask32 {y : Int} (h0 : 0 ≤ y) (h1 : y ≤ 4294967295) : iand y 4294967295 = y := by
  unfold iand
  rw [show (4294967295 : Int).toNat = 2 ^ 32 - 1 by decide, Nat.and_two_pow_sub_one_eq_mod, Nat.mod_eq_of_lt (by omega)]
  omega
theorem rep_first {w : Int} {n : Nat} : List.take 0 (List.replicate n (0 : Int)) ++ List.take (min 1 n) [w] ++ List.drop (0 + min 1 n) (List.replicate n (0 : Int)) = List.replicate (min 1 n) w ++ List.replicate (n - min 1 n) 0 := by
  rcases Nat.eq_zero_or_pos n with h | h
  · subst h; simp
  · rw [Nat.min_eq_left h]
    simp
theorem rep_step {w : Int} {n k : Nat} {b : List Int} (hb : b = List.replicate k w ++ List.replicate (n - k) 0) (hk : k ≤ n) :
    List.take k b ++ List.take (min (List.length (List.take k b)) (n - k)) (List.take k b) ++ List.drop (k + min (List.length (List.take k b)) (n - k)) b = List.replicate (k + min (List.length (List.take k b)) (n - k)) w ++ List.replicate (n - (k + min (List.length (List.take k b)) (n - k))) 0 := by
  have h1 : List.take k b = List.replicate k w := by rw [hb, List.take_left' (by simp)]
  rw [h1, List.length_replicate, List.take_replicate, List.replicate_append_replicate]
  have h2 : List.drop (k + min k (n - k)) b = List.replicate (n - (k + min k (n - k))) 0 := by
    rw [hb, List.drop_append, List.length_replicate, List.drop_eq_nil_of_le (by simp), List.nil_append, List.drop_replicate]
    congr 1; omega
  rw [h2]
  congr 2
  omega
end Go.Ab

/- Of turning a list round by exchanging its ends: the plain laws. -/
namespace Go.Ab
structure RevTo (d x : List Int) (i : Nat) (j : Int) : Prop where
  ij : j + i + 1 = d.length
  len : x.length = d.length
  at_ : ∀ p : Nat, p < d.length → x.getD p 0 = if (p < i ∨ j < p) then d.getD (d.length - 1 - p) 0 else d.getD p 0
theorem RevTo.start (d : List Int) : RevTo d d 0 (d.length - 1) := ⟨by omega, rfl, fun p hp => by rw [if_neg (by omega)]⟩
theorem RevTo.step {d x : List Int} {i : Nat} {j : Int} (h : RevTo d x i j) (hij : (i : Int) < j) : RevTo d ((x.set i (x.getD j.toNat 0)).set j.toNat (x.getD i 0)) (i + 1) (j - 1) := by
  have h1 := h.ij
  refine ⟨by omega, by rw [List.length_set, List.length_set]; exact h.len, fun p hp => ?_⟩
  have hl := h.len
  by_cases e : p = j.toNat
  · rw [e, getD_set_self _ _ _ _ (by rw [List.length_set]; omega), h.at_ i (by omega), if_neg (by omega), if_pos (by omega)]
    congr 1; omega
  · rw [getD_set_ne _ _ _ _ _ (Ne.symm e)]
    by_cases e2 : p = i
    · rw [e2, getD_set_self _ _ _ _ (by omega), h.at_ j.toNat (by omega), if_neg (by omega), if_pos (by omega)]
      congr 1; omega
    · rw [getD_set_ne _ _ _ _ _ (Ne.symm e2), h.at_ p hp]
      by_cases q : p < i ∨ j < p
      · rw [if_pos q, if_pos (by omega)]
      · rw [if_neg q, if_neg (by omega)]
end Go.Ab

/- Of lists without repeats: the plain laws. -/
namespace Go.Ab
theorem nodup_len {α : Type} [DecidableEq α] : ∀ {l m : List α}, l.Nodup → (∀ x ∈ l, x ∈ m) → l.length ≤ m.length
  | [], _, _, _ => by simp
  | a :: l, m, hn, h => by
    have hn' := List.nodup_cons.1 hn
    have ha := h a List.mem_cons_self
    have h1 := nodup_len (l := l) (m := m.erase a) hn'.2 (fun x hx => (List.mem_erase_of_ne (by rintro rfl; exact hn'.1 hx)).2 (h x (List.mem_cons_of_mem _ hx)))
    rw [List.length_erase_of_mem ha] at h1
    have : 0 < m.length := List.length_pos_of_mem ha
    simp only [List.length_cons]
    omega
end Go.Ab

/- Of trees that are given by each node's node above: the plain laws. -/
namespace Go.Ab
def treeOk (up : List Int) : Prop := ∀ k, k < up.length → 0 ≤ up.getD k 0 ∧ up.getD k 0 ≤ max 0 ((k : Int) - 1)
instance (up : List Int) : Decidable (treeOk up) := by unfold treeOk; infer_instance
/-- A tree's node is above itself or greater than the one above it. -/
theorem treeOk.below {up : List Int} (h : treeOk up) {s : Int} (h0 : 0 ≤ s) (h1 : s < up.length) : 0 ≤ up.getD s.toNat 0 ∧ up.getD s.toNat 0 ≤ max 0 (s - 1) := by
  have := h s.toNat (by omega); omega
end Go.Ab

/- Of graphs and nets: the plain laws. -/
namespace Go.Ab
/-- Out of a list, if there is no error; else nothing. -/
def okL {α : Type} (e : Int) (xs : List α) : List α := if e = 0 then xs else []
def okI (e x : Int) : Int := if e = 0 then x else 0
theorem okL_ok {α : Type} {e : Int} (xs : List α) (h : e = 0) : okL e xs = xs := by rw [okL, if_pos h]
theorem okI_ok {e : Int} (x : Int) (h : e = 0) : okI e x = x := by rw [okI, if_pos h]
theorem okL_no {α : Type} {e : Int} (xs : List α) (h : e ≠ 0) : okL e xs = [] := by rw [okL, if_neg h]
theorem okI_no {e : Int} (x : Int) (h : e ≠ 0) : okI e x = 0 := by rw [okI, if_neg h]

def ArcOk (n least : Int) (a : Arc) : Prop := 0 ≤ a.src ∧ a.src < n ∧ 0 ≤ a.dst ∧ a.dst < n ∧ least ≤ a.cap ∧ a.cap ≤ 10000
structure GOk (n : Int) (es : List Arc) (least : Int) : Prop where
  n1 : 1 ≤ n
  n2 : n ≤ 12
  len : es.length ≤ 60
  arc : ∀ a ∈ es, ArcOk n least a
theorem GOk.at_ {n : Int} {es : List Arc} {least : Int} (h : GOk n es least) {i : Nat} (hi : i < es.length) : ArcOk n least (es.getD i default) := h.arc _ (getD_mem hi)
structure NOk (n s t : Int) (es : List Arc) : Prop extends GOk n es 0 where
  s0 : 0 ≤ s
  s1 : s < n
  t0 : 0 ≤ t
  t1 : t < n
  ne : s ≠ t
end Go.Ab

/- Of graphs: turned round, counted, with an arc left out: the plain laws. -/
namespace Go.Ab
def without (es : List Arc) (k : Int) : List Arc := es.take k.toNat ++ es.drop (k.toNat + 1)
end Go.Ab

/- Of pushes: the plain laws. -/
namespace Go.Ab
end Go.Ab

/- Of the first of a list: the plain laws. -/
namespace Go.Ab
/-- The first place where a test holds, or -1. -/
def idxOf {α : Type} (p : α → Bool) : List α → Int
  | [] => -1
  | x :: r => if p x then 0 else if idxOf p r < 0 then -1 else idxOf p r + 1
theorem idxOf_ge {α : Type} {p : α → Bool} : ∀ {l : List α}, -1 ≤ idxOf p l ∧ idxOf p l < l.length
  | [] => by simp [idxOf]
  | x :: r => by
    have := idxOf_ge (p := p) (l := r)
    simp only [idxOf, List.length_cons]
    split
    · omega
    · split <;> omega
theorem idxOf_at {α : Type} {p : α → Bool} {d : α} : ∀ {l : List α} {i : Nat}, (∀ j, j < i → p (l.getD j d) = false) → i < l.length → p (l.getD i d) = true → idxOf p l = i
  | [], _, _, h, _ => by simp at h
  | x :: r, 0, _, _, h => by
    simp only [List.getD_cons_zero] at h
    simp only [idxOf, h, if_true]; rfl
  | x :: r, i + 1, h, hi, ht => by
    have h0 := h 0 (by omega)
    simp only [List.getD_cons_zero] at h0
    have hr := idxOf_at (p := p) (d := d) (l := r) (i := i) (fun j hj => by simpa using h (j + 1) (by omega)) (by simpa using hi) (by simpa using ht)
    simp only [idxOf, h0, hr]
    rw [if_neg (by simp), if_neg (by omega)]; omega
theorem idxOf_none {α : Type} {p : α → Bool} {d : α} : ∀ {l : List α}, (∀ j, j < l.length → p (l.getD j d) = false) → idxOf p l = -1
  | [], _ => rfl
  | x :: r, h => by
    have h0 := h 0 (by simp)
    simp only [List.getD_cons_zero] at h0
    have hr := idxOf_none (p := p) (d := d) (l := r) (fun j hj => by simpa using h (j + 1) (by simpa using hj))
    simp only [idxOf, h0, hr]; rfl
theorem any_idx {α : Type} {p : α → Bool} : ∀ {l : List α}, (decide ((0 : Int) ≤ idxOf p l)) = l.any p
  | [] => by simp [idxOf]
  | x :: r => by
    have hr := any_idx (p := p) (l := r)
    have hg := idxOf_ge (p := p) (l := r)
    rw [List.any_cons, ← hr, Bool.eq_iff_iff, decide_eq_true_iff, Bool.or_eq_true, decide_eq_true_iff]
    rw [show idxOf p (x :: r) = (if p x = true then 0 else if idxOf p r < 0 then -1 else idxOf p r + 1) from rfl]
    by_cases hx : p x = true
    · rw [if_pos hx]; simp [hx]
    · rw [if_neg hx]
      constructor
      · intro h; right; split at h <;> omega
      · rintro (h | h)
        · exact absurd h hx
        · split <;> omega
theorem any_at {α : Type} {p : α → Bool} {l : List α} {d : α} {i : Nat} (hi : i < l.length) (h : p (l.getD i d) = true) : l.any p = true := List.any_eq_true.2 ⟨_, getD_mem hi, h⟩
theorem any_none {α : Type} {p : α → Bool} {l : List α} {d : α} (h : ∀ j, j < l.length → p (l.getD j d) = false) : l.any p = false := by
  rw [Bool.eq_false_iff]
  intro h1
  obtain ⟨x, hx, hp⟩ := List.any_eq_true.1 h1
  obtain ⟨k, hk, rfl⟩ := List.getElem_of_mem hx
  have := h k hk
  rw [getD_lt l d k hk] at this
  rw [this] at hp; cases hp
end Go.Ab

/- Of flows: the plain laws. -/
namespace Go.Ab
/-- How much more goes from a node than to it. -/
def gone : List Arc → List Int → Int → Int
  | a :: r, x :: q, v => (if a.src = v then x else 0) - (if a.dst = v then x else 0) + gone r q v
  | _, _, _ => 0
def over : List Arc → List Int → Bool
  | a :: r, x :: q => decide (x < 0) || decide (a.cap < x) || over r q
  | _, _ => false
/-- A node at which something is lost. -/
def lost (n s t : Int) (es : List Arc) (f : List Int) : Prop := ∃ k, k < n.toNat ∧ (k : Int) ≠ s ∧ (k : Int) ≠ t ∧ gone es f (k : Int) ≠ 0
instance (n s t : Int) (es : List Arc) (f : List Int) : Decidable (lost n s t es f) := by unfold lost; infer_instance
/-- Within the arcs' bounds. -/
structure FIn (es : List Arc) (f : List Int) : Prop where
  len : f.length = es.length
  at_ : ∀ k, k < es.length → 0 ≤ f.getD k 0 ∧ f.getD k 0 ≤ (es.getD k default).cap
end Go.Ab

/- Of flows: sums at the nodes: the plain laws. -/
namespace Go.Ab
/-- A flow of a net. -/
structure FlOk (n s t : Int) (es : List Arc) (f : List Int) : Prop where
  net : NOk n s t es
  fin : FIn es f
  kept : ∀ k : Nat, (k : Int) ≠ s → (k : Int) ≠ t → gone es f (k : Int) = 0
end Go.Ab

/- Of cuts: the plain laws. -/
namespace Go.Ab
/-- Does a side, a number, hold a node? 1 or 0. -/
def bit (σ v : Int) : Int := iand (σ / 2 ^ v.toNat) 1
theorem bit_01 {σ : Int} (v : Int) (_h : 0 ≤ σ) : bit σ v = 0 ∨ bit σ v = 1 := by
  unfold bit iand
  have : ((σ / 2 ^ v.toNat).toNat &&& (1 : Int).toNat) = (σ / 2 ^ v.toNat).toNat % 2 := Nat.and_one_is_mod _
  rw [this]
  omega
theorem shr_in {σ : Int} (v : Int) (h0 : 0 ≤ σ) (h1 : σ ≤ 65535) : 0 ≤ σ / 2 ^ v.toNat ∧ σ / 2 ^ v.toNat ≤ 65535 := by
  have hp : (0 : Int) < 2 ^ v.toNat := Int.pow_pos (by decide)
  refine ⟨Int.ediv_nonneg h0 (Int.le_of_lt hp), ?_⟩
  have := Int.ediv_le_self (2 ^ v.toNat) h0
  omega
def capOf : List Arc → Int → Int
  | [], _ => 0
  | a :: r, σ => a.cap * bit σ a.src * (1 - bit σ a.dst) + capOf r σ
theorem part_in2 {c b d : Int} (h0 : 0 ≤ c) (h1 : c ≤ 10000) (hb : b = 0 ∨ b = 1) (hd : d = 0 ∨ d = 1) : 0 ≤ c * b * (1 - d) ∧ c * b * (1 - d) ≤ 10000 := by
  rcases hb with rfl | rfl <;> rcases hd with rfl | rfl <;> simp <;> omega
theorem capOf_in {n : Int} {es : List Arc} {z : Int} (hg : GOk n es 0) (hz : 0 ≤ z) : 0 ≤ capOf es z ∧ capOf es z ≤ 600000 := by
  have key : ∀ (r : List Arc), (∀ a ∈ r, 0 ≤ a.cap ∧ a.cap ≤ 10000) → 0 ≤ capOf r z ∧ capOf r z ≤ 10000 * (r.length : Int) := by
    intro r
    induction r with
    | nil => intro _; simp [capOf]
    | cons a r ih =>
      intro h
      have h1 := ih (fun b hb => h b (List.mem_cons_of_mem _ hb))
      have h2 := h a List.mem_cons_self
      have h3 := part_in2 h2.1 h2.2 (bit_01 a.src hz) (bit_01 a.dst hz)
      simp only [capOf, List.length_cons]
      omega
  have := key es (fun a ha => ⟨(hg.arc a ha).2.2.2.2.1, (hg.arc a ha).2.2.2.2.2⟩)
  have := hg.len
  omega
def pstep (s t : Int) (es : List Arc) (x : Int × Int × Int) (z : Int) : Int × Int × Int :=
  if bit z s = 0 ∨ bit z t = 1 then x else
    if x.1 < 0 ∨ capOf es z < x.1 then (capOf es z, z, z) else if capOf es z = x.1 then (x.1, iand x.2.1 z, ior x.2.2 z) else x
def parted (n s t : Int) (es : List Arc) : Int × Int × Int := (List.range (2 ^ n.toNat)).foldl (fun x (k : Nat) => pstep s t es x (k : Int)) (-1, 0, 0)
end Go.Ab

/- Of sorted lists, and of lists that hold each number once: the plain laws. -/
namespace Go.Ab
def sorted (zs : List Int) : List Int := zs.mergeSort fun x y => decide (x ≤ y)
theorem sorted_len (zs : List Int) : (sorted zs).length = zs.length := List.length_mergeSort zs
theorem sorted_perm (zs : List Int) : (sorted zs).Perm zs := List.mergeSort_perm zs _
theorem sorted_le (zs : List Int) : (sorted zs).Pairwise (· ≤ ·) := by
  have h := List.pairwise_mergeSort (le := fun x y : Int => decide (x ≤ y)) (by intro a b c; simp; omega) (by intro a b; simp; omega) zs
  exact h.imp fun h => by simpa using h
theorem perm_of_sub {α : Type} [DecidableEq α] : ∀ (r l : List α), r.Nodup → (∀ x ∈ r, x ∈ l) → l.length ≤ r.length → r.Perm l
  | [], l, _, _, h => by
    have : l = [] := List.eq_nil_of_length_eq_zero (by simpa using h)
    subst this; exact List.Perm.refl _
  | x :: r, l, hn, hs, h => by
    obtain ⟨h1, h2⟩ := List.nodup_cons.1 hn
    have hx := hs x List.mem_cons_self
    have hp := List.perm_cons_erase hx
    have hl := hp.length_eq
    refine (List.Perm.cons x (perm_of_sub r (l.erase x) h2 (fun y hy => ?_) (by simp only [List.length_cons] at h hl; omega))).trans hp.symm
    have : y ∈ x :: l.erase x := hp.mem_iff.1 (hs y (List.mem_cons_of_mem _ hy))
    rcases List.mem_cons.1 this with rfl | h3
    · exact absurd hy h1
    · exact h3
/-- The numbers below n. -/
def idsOf (n : Nat) : List Int := (List.range n).map fun (k : Nat) => (k : Int)
theorem ids_len (n : Nat) : (idsOf n).length = n := by simp [idsOf]
theorem ids_mem {n : Nat} {x : Int} : x ∈ idsOf n ↔ ∃ k, k < n ∧ x = ((k : Nat) : Int) := by
  simp only [idsOf, List.mem_map, List.mem_range]
  exact ⟨fun ⟨k, h1, h2⟩ => ⟨k, h1, h2.symm⟩, fun ⟨k, h1, h2⟩ => ⟨k, h1, h2.symm⟩⟩
theorem ids_nodup (n : Nat) : (idsOf n).Nodup := by
  unfold idsOf
  exact List.Pairwise.map _ (fun a b h q => h (by omega)) List.nodup_range
/-- The list holds each number below n, once. -/
def isFull (n : Nat) (l : List Int) : Prop := l.length = n ∧ ∀ k, k < n → ((k : Nat) : Int) ∈ l
theorem isFull.perm {n : Nat} {l : List Int} (h : isFull n l) : (idsOf n).Perm l :=
  perm_of_sub _ _ (ids_nodup n) (fun x hx => by obtain ⟨k, h1, rfl⟩ := ids_mem.1 hx; exact h.2 k h1) (by rw [ids_len, h.1]; exact Nat.le_refl _)
theorem isFull.in_ {n : Nat} {l : List Int} (h : isFull n l) {x : Int} (hx : x ∈ l) : 0 ≤ x ∧ x < n := by
  obtain ⟨k, h1, rfl⟩ := ids_mem.1 (h.perm.mem_iff.2 hx)
  omega
theorem isFull.at_ {n : Nat} {l : List Int} (h : isFull n l) {i : Nat} (hi : i < n) : 0 ≤ l.getD i 0 ∧ l.getD i 0 < n := h.in_ (getD_mem (by rw [h.1]; exact hi))
end Go.Ab

/- Of flows and cuts: the greatest flow is the least cut: the plain laws. -/
namespace Go.Ab
/-- What goes out of a side, less what comes in. -/
def sideGone : List Arc → List Int → Int → Int
  | a :: r, x :: q, z => x * (bit z a.src - bit z a.dst) + sideGone r q z
  | _, _, _ => 0
/-- The sum over the nodes from k on, so many. -/
def nodeSum (g : Int → Int) : Nat → Nat → Int
  | _, 0 => 0
  | k, m + 1 => g (k : Int) + nodeSum g (k + 1) m
theorem nodeSum_congr {g h : Int → Int} : ∀ {m k : Nat}, (∀ j : Nat, k ≤ j → j < k + m → g (j : Int) = h (j : Int)) → nodeSum g k m = nodeSum h k m
  | 0, _, _ => rfl
  | m + 1, k, e => by
    unfold nodeSum
    rw [e k (Nat.le_refl _) (by omega), nodeSum_congr (m := m) (k := k + 1) (fun j h1 h2 => e j (by omega) (by omega))]
theorem nodeSum_add (g h : Int → Int) : ∀ (m k : Nat), nodeSum (fun v => g v + h v) k m = nodeSum g k m + nodeSum h k m
  | 0, _ => rfl
  | m + 1, k => by
    unfold nodeSum
    rw [nodeSum_add g h m (k + 1)]; omega
theorem nodeSum_zero {g : Int → Int} {m k : Nat} (h : ∀ j : Nat, k ≤ j → j < k + m → g (j : Int) = 0) : nodeSum g k m = 0 := by
  have : nodeSum g k m = nodeSum (fun _ => 0) k m := nodeSum_congr h
  rw [this]
  clear this h
  induction m generalizing k with
  | zero => rfl
  | succ m ih => unfold nodeSum; rw [ih]; rfl
/-- A sum with one limb. -/
theorem nodeSum_one {g : Int → Int} {v : Int} : ∀ {m k : Nat}, (k : Int) ≤ v → v < (k + m : Nat) → (∀ j : Nat, k ≤ j → j < k + m → (j : Int) ≠ v → g (j : Int) = 0) → nodeSum g k m = g v
  | 0, k, h1, h2, _ => by omega
  | m + 1, k, h1, h2, h => by
    unfold nodeSum
    by_cases hk : (k : Int) = v
    · rw [nodeSum_zero (fun j hj hj2 => h j (by omega) (by omega) (by omega)), hk]; omega
    · rw [nodeSum_one (m := m) (k := k + 1) (by omega) (by omega) (fun j hj hj2 hn => h j (by omega) (by omega) hn), h k (Nat.le_refl _) (by omega) hk]; omega
theorem side_nodes {es : List Arc} {f : List Int} {n z : Int} (h12 : n ≤ 12) (h : ∀ a ∈ es, 0 ≤ a.src ∧ a.src < n ∧ 0 ≤ a.dst ∧ a.dst < n) : sideGone es f z = nodeSum (fun v => bit z v * gone es f v) 0 12 := by
  induction es generalizing f with
  | nil => exact (nodeSum_zero (fun j _ _ => by simp [gone])).symm
  | cons a r ih =>
    cases f with
    | nil => exact (nodeSum_zero (fun j _ _ => by simp [gone])).symm
    | cons x q =>
      have ha := h a List.mem_cons_self
      have e1 : nodeSum (fun v => bit z v * gone (a :: r) (x :: q) v) 0 12 = nodeSum (fun v => (bit z v * (if a.src = v then x else 0) + bit z v * (- (if a.dst = v then x else 0))) + bit z v * gone r q v) 0 12 :=
        nodeSum_congr fun j _ _ => by
          simp only [gone]
          rw [← Int.mul_add, ← Int.mul_add]
          congr 1
      rw [e1, nodeSum_add, nodeSum_add, ← ih (fun b hb => h b (List.mem_cons_of_mem _ hb))]
      rw [nodeSum_one (v := a.src) (m := 12) (k := 0) (by omega) (by omega) (fun j _ _ hj => by rw [if_neg (fun e => hj e.symm), Int.mul_zero])]
      rw [nodeSum_one (v := a.dst) (m := 12) (k := 0) (by omega) (by omega) (fun j _ _ hj => by rw [if_neg (fun e => hj e.symm)]; simp)]
      rw [if_pos rfl, if_pos rfl]
      simp only [sideGone]
      rw [Int.mul_sub, Int.mul_comm x, Int.mul_comm x, Int.mul_neg]
      omega
/-- A side that parts the source from the sink. -/
def Parts (n s t z : Int) : Prop := 0 ≤ z ∧ z < ((2 ^ n.toNat : Nat) : Int) ∧ bit z s = 1 ∧ bit z t = 0
theorem side_value {n s t z : Int} {es : List Arc} {f : List Int} (h : FlOk n s t es f) (hz : Parts n s t z) : sideGone es f z = gone es f s := by
  have hok := h.net
  have h4 := hok.s0
  have h5 := hok.s1
  have h2 := hok.n2
  rw [side_nodes hok.n2 (fun a ha => ⟨(hok.arc a ha).1, (hok.arc a ha).2.1, (hok.arc a ha).2.2.1, (hok.arc a ha).2.2.2.1⟩)]
  rw [nodeSum_one (v := s) (m := 12) (k := 0) (by omega) (by omega) (fun j _ _ hj => by
    by_cases hjt : (j : Int) = t
    · rw [hjt, hz.2.2.2, Int.zero_mul]
    · rw [h.kept j hj hjt, Int.mul_zero])]
  rw [hz.2.2.1, Int.one_mul]
theorem side_le {es : List Arc} {f : List Int} {z : Int} (hz : 0 ≤ z) (h : FIn es f) : sideGone es f z ≤ capOf es z := by
  induction es generalizing f with
  | nil => simp [sideGone, capOf]
  | cons a r ih =>
    cases f with
    | nil => have := h.len; simp at this
    | cons x q =>
      have h0 := h.at_ 0 (by simp)
      simp only [List.getD_cons_zero] at h0
      have hr := ih (f := q) ⟨by have := h.len; simpa using this, fun k hk => by have := h.at_ (k + 1) (by simpa using hk); simpa using this⟩
      simp only [sideGone, capOf]
      have : x * (bit z a.src - bit z a.dst) ≤ a.cap * bit z a.src * (1 - bit z a.dst) := by
        rcases bit_01 a.src hz with h1 | h1 <;> rcases bit_01 a.dst hz with h2 | h2 <;> rw [h1, h2] <;> simp <;> omega
      omega
/-- No arc takes more out of the side, none brings anything in. -/
def Shut (es : List Arc) (f : List Int) (z : Int) : Prop := ∀ k, k < es.length →
  (bit z (es.getD k default).src = 1 → bit z (es.getD k default).dst = 0 → f.getD k 0 = (es.getD k default).cap) ∧ (bit z (es.getD k default).src = 0 → bit z (es.getD k default).dst = 1 → f.getD k 0 = 0)
/-! ### The least cut -/
theorem pstep_skip {s t z : Int} {es : List Arc} {x : Int × Int × Int} (h : ¬ (bit z s = 1 ∧ bit z t = 0)) (hz : 0 ≤ z) : pstep s t es x z = x := by
  unfold pstep
  rw [if_pos]
  rcases bit_01 s hz with h1 | h1 <;> rcases bit_01 t hz with h2 | h2
  · exact .inl h1
  · exact .inl h1
  · exact absurd ⟨h1, h2⟩ h
  · exact .inr h2
/-- The least cut so far: it is one, and no other is less. -/
theorem parted_fold {n s t : Int} {es : List Arc} (hg : GOk n es 0) : ∀ i : Nat,
    ((List.range i).foldl (fun x (k : Nat) => pstep s t es x (k : Int)) (-1, 0, 0)).1 = -1 ∧ (∀ k : Nat, k < i → ¬ (bit (k : Int) s = 1 ∧ bit (k : Int) t = 0)) ∨
    (∃ k : Nat, k < i ∧ bit (k : Int) s = 1 ∧ bit (k : Int) t = 0 ∧ ((List.range i).foldl (fun x (k : Nat) => pstep s t es x (k : Int)) (-1, 0, 0)).1 = capOf es (k : Int)) ∧
    (∀ k : Nat, k < i → bit (k : Int) s = 1 → bit (k : Int) t = 0 → ((List.range i).foldl (fun x (k : Nat) => pstep s t es x (k : Int)) (-1, 0, 0)).1 ≤ capOf es (k : Int)) := by
  intro i
  induction i with
  | zero => exact .inl ⟨rfl, fun k hk => by omega⟩
  | succ i ih =>
    rw [List.range_succ, List.foldl_append]
    simp only [List.foldl_cons, List.foldl_nil]
    generalize hx : (List.range i).foldl (fun x (k : Nat) => pstep s t es x (k : Int)) (-1, 0, 0) = x at ih
    have hi0 : (0 : Int) ≤ (i : Int) := by omega
    by_cases hv : bit (i : Int) s = 1 ∧ bit (i : Int) t = 0
    · have hc := capOf_in hg hi0
      have hst : pstep s t es x (i : Int) = if x.1 < 0 ∨ capOf es (i : Int) < x.1 then (capOf es (i : Int), (i : Int), (i : Int)) else if capOf es (i : Int) = x.1 then (x.1, iand x.2.1 (i : Int), ior x.2.2 (i : Int)) else x := by
        rw [pstep, if_neg (by omega)]
      rw [hst]
      rcases ih with ⟨h1, h2⟩ | ⟨⟨k, k1, k2, k3, k4⟩, h2⟩
      · rw [if_pos (by omega)]
        refine .inr ⟨⟨i, by omega, hv.1, hv.2, rfl⟩, fun k hk hs ht => ?_⟩
        rcases Nat.lt_succ_iff_lt_or_eq.1 hk with h | h
        · exact absurd ⟨hs, ht⟩ (h2 k h)
        · subst h; exact Int.le_refl _
      · have hk0 := capOf_in hg (z := (k : Int)) (by omega)
        by_cases hlt : capOf es (i : Int) < x.1
        · rw [if_pos (.inr hlt)]
          refine .inr ⟨⟨i, by omega, hv.1, hv.2, rfl⟩, fun k' hk' hs ht => ?_⟩
          rcases Nat.lt_succ_iff_lt_or_eq.1 hk' with h | h
          · have := h2 k' h hs ht; show capOf es (i : Int) ≤ _; omega
          · subst h; exact Int.le_refl _
        · rw [if_neg (by omega)]
          have hfst : (if capOf es (i : Int) = x.1 then (x.1, iand x.2.1 (i : Int), ior x.2.2 (i : Int)) else x).1 = x.1 := by split <;> rfl
          rw [hfst]
          refine .inr ⟨⟨k, by omega, k2, k3, k4⟩, fun k' hk' hs ht => ?_⟩
          rcases Nat.lt_succ_iff_lt_or_eq.1 hk' with h | h
          · exact h2 k' h hs ht
          · subst h; omega
    · rw [pstep_skip hv hi0]
      rcases ih with ⟨h1, h2⟩ | ⟨⟨k, k1, k2, k3, k4⟩, h2⟩
      · refine .inl ⟨h1, fun k hk => ?_⟩
        rcases Nat.lt_succ_iff_lt_or_eq.1 hk with h | h
        · exact h2 k h
        · subst h; exact hv
      · refine .inr ⟨⟨k, by omega, k2, k3, k4⟩, fun k' hk' hs ht => ?_⟩
        rcases Nat.lt_succ_iff_lt_or_eq.1 hk' with h | h
        · exact h2 k' h hs ht
        · subst h; exact absurd ⟨hs, ht⟩ hv
end Go.Ab

/- Of sides, that are numbers: the plain laws. -/
namespace Go.Ab
/-- Does a side hold a node? -/
def has (z : Int) (v : Nat) : Bool := z.toNat.testBit v
theorem bit_has {z : Int} (v : Int) (h : 0 ≤ z) : bit z v = if has z v.toNat then 1 else 0 := by
  unfold bit iand has
  have h1 : (z / 2 ^ v.toNat).toNat = z.toNat / 2 ^ v.toNat := by
    obtain ⟨m, rfl⟩ := Int.eq_ofNat_of_zero_le h
    have h4 : ((2 ^ v.toNat : Nat) : Int) = (2 : Int) ^ v.toNat := by norm_cast
    rw [← h4]
    norm_cast
  rw [h1, ← Nat.shiftRight_eq_div_pow]
  have h2 : ((z.toNat >>> v.toNat) &&& (1 : Int).toNat) = (z.toNat >>> v.toNat) % 2 := Nat.and_one_is_mod _
  rw [h2, Nat.testBit, Nat.one_and_eq_mod_two]
  have h3 : z.toNat >>> v.toNat % 2 = 0 ∨ z.toNat >>> v.toNat % 2 = 1 := by omega
  rcases h3 with h3 | h3 <;> rw [h3] <;> rfl
theorem bit_yes {z : Int} {v : Int} (h : 0 ≤ z) : bit z v = 1 ↔ has z v.toNat = true := by
  rw [bit_has v h]; cases has z v.toNat <;> simp
theorem bit_no {z : Int} {v : Int} (h : 0 ≤ z) : bit z v = 0 ↔ has z v.toNat = false := by
  rw [bit_has v h]; cases has z v.toNat <;> simp
theorem has_ior {a b : Int} {v : Nat} : has (ior a b) v = (has a v || has b v) := by
  unfold has ior; rw [Int.toNat_natCast, Nat.testBit_or]
theorem has_iand {a b : Int} {v : Nat} : has (iand a b) v = (has a v && has b v) := by
  unfold has iand; rw [Int.toNat_natCast, Nat.testBit_and]
theorem has_iandn {a b : Int} {v : Nat} : has (iandn a b) v = (has a v && !has b v) := by
  unfold has iandn; rw [Int.toNat_natCast, Nat.testBit_xor, Nat.testBit_and]
  cases a.toNat.testBit v <;> cases b.toNat.testBit v <;> rfl
theorem pow_nat (k : Nat) : ((2 : Int) ^ k) = ((2 ^ k : Nat) : Int) := by norm_cast
theorem has_pow {k v : Nat} : has (1 * 2 ^ k) v = decide (k = v) := by
  unfold has; rw [Int.one_mul, pow_nat, Int.toNat_natCast, Nat.testBit_two_pow]
theorem has_mask {k v : Nat} : has (1 * 2 ^ k - 1) v = decide (v < k) := by
  unfold has
  have h : (1 * 2 ^ k - 1 : Int).toNat = 2 ^ k - 1 := by
    have : 1 ≤ 2 ^ k := Nat.one_le_two_pow
    rw [Int.one_mul, pow_nat]; omega
  rw [h, Nat.testBit_two_pow_sub_one]
theorem has_zero (v : Nat) : has 0 v = false := by unfold has; exact Nat.zero_testBit v
theorem side_ext {a b : Int} (ha : 0 ≤ a) (hb : 0 ≤ b) (h : ∀ v, has a v = has b v) : a = b := by
  have : a.toNat = b.toNat := Nat.eq_of_testBit_eq h
  omega
theorem has_lt {z : Int} {n v : Nat} (_h0 : 0 ≤ z) (h1 : z < ((2 ^ n : Nat) : Int)) (hv : n ≤ v) : has z v = false := by
  unfold has
  apply Nat.testBit_lt_two_pow
  have : 2 ^ n ≤ 2 ^ v := Nat.pow_le_pow_right (by decide) hv
  omega
theorem lt_has {z : Int} {n : Nat} (h0 : 0 ≤ z) (h : ∀ v, n ≤ v → has z v = false) : z < ((2 ^ n : Nat) : Int) := by
  have : z.toNat < 2 ^ n := Nat.lt_pow_two_of_testBit _ h
  omega
theorem ior0 (a b : Int) : 0 ≤ ior a b := Int.natCast_nonneg _
theorem iand0 (a b : Int) : 0 ≤ iand a b := Int.natCast_nonneg _
theorem iandn0 (a b : Int) : 0 ≤ iandn a b := Int.natCast_nonneg _
/-- One side lies within another one. -/
def sub (a b : Int) : Prop := ∀ v, has a v = true → has b v = true
theorem sub_antisymm {a b : Int} (ha : 0 ≤ a) (hb : 0 ≤ b) (h1 : sub a b) (h2 : sub b a) : a = b :=
  side_ext ha hb fun v => by
    cases e1 : has a v <;> cases e2 : has b v
    · rfl
    · have := h2 v e2; rw [e1] at this; cases this
    · have := h1 v e1; rw [e2] at this; cases this
    · rfl
/-- How many of the first m nodes a side holds. -/
def many (z : Int) : Nat → Nat
  | 0 => 0
  | m + 1 => (if has z m then 1 else 0) + many z m
theorem many_le (z : Int) : ∀ m, many z m ≤ m
  | 0 => Nat.le_refl _
  | m + 1 => by have := many_le z m; unfold many; split <;> omega
theorem many_sub {a b : Int} (h : sub a b) : ∀ m, many a m ≤ many b m
  | 0 => Nat.le_refl _
  | m + 1 => by
    have := many_sub h m
    unfold many
    cases e : has a m
    · simp; split <;> omega
    · rw [h m e]; simp; omega
theorem many_lt {a b : Int} (h : sub a b) {v : Nat} (h1 : has a v = false) (h2 : has b v = true) : ∀ {m}, v < m → many a m < many b m
  | m + 1, hv => by
    unfold many
    by_cases e : v = m
    · subst e
      rw [h1, h2]
      have := many_sub h v
      simp; omega
    · have := many_lt h h1 h2 (m := m) (by omega)
      cases e2 : has a m
      · simp; split <;> omega
      · rw [h m e2]; simp; omega
end Go.Ab

/- Of ways in what is left of a net: the plain laws. -/
namespace Go.Ab
/-- The arc k leads from u to v, forward or back, and takes something yet. -/
def Res (es : List Arc) (f : List Int) (k : Int) (b : Bool) (u v : Int) : Prop :=
  0 ≤ k ∧ k < es.length ∧ (if b = true then (es.getD k.toNat default).dst = u ∧ (es.getD k.toNat default).src = v ∧ 0 < f.getD k.toNat 0 else (es.getD k.toNat default).src = u ∧ (es.getD k.toNat default).dst = v ∧ f.getD k.toNat 0 < (es.getD k.toNat default).cap)
/-- The nodes that are found, and whence. -/
structure Bfs (es : List Arc) (f : List Int) (s n : Int) (fr : List Int) (st : List (Int × Bool)) (todo : List Int) (r : Nat → Nat) (c : Nat) : Prop where
  l1 : fr.length = 12
  l2 : st.length = 12
  src : fr.getD s.toNat 0 = s
  lo : ∀ v, v < 12 → -1 ≤ fr.getD v 0
  vis : ∀ v : Nat, v < 12 → 0 ≤ fr.getD v 0 → (v : Int) < n ∧ fr.getD v 0 < n ∧ 0 ≤ fr.getD (fr.getD v 0).toNat 0 ∧ r v < c ∧
    ((v : Int) ≠ s → Res es f (st.getD v (0, false)).1 (st.getD v (0, false)).2 (fr.getD v 0) (v : Int) ∧ r (fr.getD v 0).toNat < r v)
  todo_ : ∀ u ∈ todo, 0 ≤ u ∧ u < n ∧ 0 ≤ fr.getD u.toNat 0
/-! ### A side of the found nodes -/
/-! ### The way back from the sink -/
/-- What a step may take yet. -/
def room1 (es : List Arc) (f : List Int) (p : Int × Bool) : Int := if p.2 = true then f.getD p.1.toNat 0 else (es.getD p.1.toNat default).cap - f.getD p.1.toNat 0
/-- No arc twice. -/
def Once : List (Int × Bool) → Prop
  | [] => True
  | p :: r => (∀ q ∈ r, q.1 ≠ p.1) ∧ Once r
theorem Res.pos {es : List Arc} {f : List Int} {k : Int} {b : Bool} {u v : Int} (h : Res es f k b u v) : 0 < room1 es f (k, b) := by
  obtain ⟨_, _, h⟩ := h
  unfold room1
  cases b
  · simp only [Bool.false_eq_true, if_false] at h ⊢; omega
  · simp only [if_true] at h ⊢; omega
end Go.Ab

/- Of flows that grow along a way: the plain laws. -/
namespace Go.Ab
theorem Once.at_ : ∀ {l : List (Int × Bool)} {j : Nat} {d : Int × Bool}, Once l → j < l.length → ∀ q ∈ l.take j, q.1 ≠ (l.getD j d).1
  | [], _, _, _, hj, _, _ => by simp at hj
  | p :: r, 0, _, _, _, q, hq => by simp at hq
  | p :: r, j + 1, d, h, hj, q, hq => by
    simp only [List.take_succ_cons, List.mem_cons, List.getD_cons_succ] at hq ⊢
    have hj' : j < r.length := by simpa using hj
    rcases hq with rfl | hq
    · exact fun e => h.1 _ (getD_mem (d := d) hj') e.symm
    · exact Once.at_ h.2 hj' q hq
end Go.Ab

/- Of what is come to over what is left: the least and the greatest side: the plain laws. -/
namespace Go.Ab
def xOf (tr : Bool) (a : Arc) : Int := cond tr a.dst a.src
def yOf (tr : Bool) (a : Arc) : Int := cond tr a.src a.dst
/-- Nothing new is come to by that arc. -/
def CloAt (es : List Arc) (f : List Int) (tr : Bool) (w : Int) (k : Nat) : Prop :=
  (f.getD k 0 < (es.getD k default).cap → has w (xOf tr (es.getD k default)).toNat = true → has w (yOf tr (es.getD k default)).toNat = true) ∧
  (0 < f.getD k 0 → has w (yOf tr (es.getD k default)).toNat = true → has w (xOf tr (es.getD k default)).toNat = true)
def Clo (es : List Arc) (f : List Int) (tr : Bool) (w : Int) : Prop := ∀ k, k < es.length → CloAt es f tr w k
structure Sp (es : List Arc) (f : List Int) (tr : Bool) (n a z : Int) : Prop where
  z0 : 0 ≤ z
  lt : ∀ v, n.toNat ≤ v → has z v = false
  at_ : has z a.toNat = true
  min : ∀ w, Clo es f tr w → has w a.toNat = true → sub z w
theorem Sp.start {es : List Arc} {f : List Int} {tr : Bool} {n a : Int} (h0 : 0 ≤ a) (h1 : a < n) : Sp es f tr n a (1 * 2 ^ a.toNat) := by
  refine ⟨by rw [Int.one_mul, pow_nat]; exact Int.natCast_nonneg _, fun v hv => ?_, ?_, fun w _ hw v hv => ?_⟩
  · rw [has_pow]; simp; omega
  · rw [has_pow]; simp
  · rw [has_pow] at hv
    have : a.toNat = v := by simpa using hv
    rw [← this]; exact hw
theorem Sp.add {es : List Arc} {f : List Int} {tr : Bool} {n a z : Int} (h : Sp es f tr n a z) {u : Nat} (hu : u < n.toNat) (hm : ∀ w, Clo es f tr w → sub z w → has w u = true) : Sp es f tr n a (ior z (1 * 2 ^ u)) := by
  refine ⟨ior0 _ _, fun v hv => ?_, ?_, fun w hw ha v hv => ?_⟩
  · rw [has_ior, h.lt v hv, has_pow]; simp; omega
  · rw [has_ior, h.at_]; rfl
  · rw [has_ior, has_pow] at hv
    cases e : has z v
    · rw [e] at hv
      have : u = v := by simpa using hv
      rw [← this]; exact hm w hw (h.min w hw ha)
    · exact h.min w hw ha v e
theorem sub_ior (a b : Int) : sub a (ior a b) := fun v hv => by rw [has_ior, hv]; rfl
theorem sub_refl (a : Int) : sub a a := fun _ h => h
theorem sub_trans {a b c : Int} (h1 : sub a b) (h2 : sub b c) : sub a c := fun v h => h2 v (h1 v h)
theorem ior_eq {z : Int} {u : Nat} (h : ior z (1 * 2 ^ u) = z) : has z u = true := by
  rw [← h, has_ior, has_pow]; simp
/-- How far a pass over the arcs has come: where it changed nothing, nothing new is come to by the arcs so far. -/
structure Pass (es : List Arc) (f : List Int) (tr : Bool) (z0 z : Int) (k : Nat) : Prop where
  sub_ : sub z0 z
  clo : z = z0 → ∀ j, j < k → CloAt es f tr z j
theorem Pass.step {es : List Arc} {f : List Int} {tr : Bool} {n a z0 z : Int} {k : Nat} (h : Pass es f tr z0 z k) (hs : Sp es f tr n a z) (hz0 : 0 ≤ z0) {z1 z2 : Int}
    (h1 : z1 = if f.getD k 0 < (es.getD k default).cap ∧ has z (xOf tr (es.getD k default)).toNat = true then ior z (1 * 2 ^ (yOf tr (es.getD k default)).toNat) else z)
    (h2 : z2 = if 0 < f.getD k 0 ∧ has z1 (yOf tr (es.getD k default)).toNat = true then ior z1 (1 * 2 ^ (xOf tr (es.getD k default)).toNat) else z1)
    (hk : k < es.length) (hx : (xOf tr (es.getD k default)).toNat < n.toNat) (hy : (yOf tr (es.getD k default)).toNat < n.toNat) : Sp es f tr n a z2 ∧ Pass es f tr z0 z2 (k + 1) := by
  have s1 : Sp es f tr n a z1 := by
    rw [h1]; split
    · rename_i c; exact hs.add hy (fun w hw hz => (hw k hk).1 c.1 (hz _ c.2))
    · exact hs
  have s2 : Sp es f tr n a z2 := by
    rw [h2]; split
    · rename_i c; exact s1.add hx (fun w hw hz => (hw k hk).2 c.1 (hz _ c.2))
    · exact s1
  have b1 : sub z z1 := by rw [h1]; split; exact sub_ior _ _; exact sub_refl _
  have b2 : sub z1 z2 := by rw [h2]; split; exact sub_ior _ _; exact sub_refl _
  refine ⟨s2, sub_trans h.sub_ (sub_trans b1 b2), fun e j hj => ?_⟩
  have e0 : z = z0 := sub_antisymm hs.z0 hz0 (fun v hv => by rw [← e]; exact b2 v (b1 v hv)) h.sub_
  have e1 : z1 = z0 := sub_antisymm s1.z0 hz0 (fun v hv => by rw [← e]; exact b2 v hv) (sub_trans h.sub_ b1)
  rw [e]
  rcases Nat.lt_succ_iff_lt_or_eq.1 hj with hj | hj
  · have := h.clo e0 j hj
    rwa [e0] at this
  · subst hj
    refine ⟨fun c1 c2 => ?_, fun c1 c2 => ?_⟩
    · rw [e0] at h1
      rw [if_pos ⟨c1, c2⟩] at h1
      exact ior_eq (h1.symm.trans e1)
    · rw [e1] at h2
      rw [if_pos ⟨c1, c2⟩] at h2
      exact ior_eq (h2.symm.trans e)
theorem Pass.start {es : List Arc} {f : List Int} {tr : Bool} {z : Int} : Pass es f tr z z 0 := ⟨sub_refl _, fun _ j hj => by omega⟩
theorem Sp.done {es : List Arc} {f : List Int} {tr : Bool} {n z : Int} {i : Nat} (hp : Clo es f tr z ∨ i + 1 ≤ many z n.toNat) (hi : n.toNat ≤ i) : Clo es f tr z := by
  rcases hp with hp | hp
  · exact hp
  · have := many_le z n.toNat; omega
/-! ### The least and the greatest side -/
theorem side_shut {es : List Arc} {f : List Int} {z : Int} (hz : 0 ≤ z) (h : FIn es f) (he : sideGone es f z = capOf es z) : Shut es f z := by
  induction es generalizing f with
  | nil => intro k hk; simp at hk
  | cons a r ih =>
    cases f with
    | nil => have := h.len; simp at this
    | cons x q =>
      have h0 := h.at_ 0 (by simp)
      simp only [List.getD_cons_zero] at h0
      have hf : FIn r q := ⟨by have := h.len; simpa using this, fun k hk => by have := h.at_ (k + 1) (by simpa using hk); simpa using this⟩
      have hl := side_le hz hf
      simp only [sideGone, capOf] at he
      have h1 : x * (bit z a.src - bit z a.dst) ≤ a.cap * bit z a.src * (1 - bit z a.dst) := by
        rcases bit_01 a.src hz with h1 | h1 <;> rcases bit_01 a.dst hz with h2 | h2 <;> rw [h1, h2] <;> simp <;> omega
      have hr := ih hf (by omega)
      have h2 : x * (bit z a.src - bit z a.dst) = a.cap * bit z a.src * (1 - bit z a.dst) := by omega
      intro k hk
      cases k with
      | zero =>
        simp only [List.getD_cons_zero]
        refine ⟨fun b1 b2 => ?_, fun b1 b2 => ?_⟩
        · rw [b1, b2] at h2; simpa using h2
        · rw [b1, b2] at h2; simp at h2; omega
      | succ k =>
        simp only [List.getD_cons_succ]
        exact hr k (by simpa using hk)
theorem clo_of_shut {es : List Arc} {f : List Int} {z : Int} (hz : 0 ≤ z) (h : Shut es f z) (hf : FIn es f) : Clo es f false z := by
  intro k hk
  have h1 := h k hk
  have h2 := hf.at_ k hk
  unfold CloAt xOf yOf
  simp only [cond_false]
  rw [bit_yes hz, bit_no hz] at h1
  rw [bit_no hz, bit_yes hz] at h1
  refine ⟨fun c1 c2 => ?_, fun c1 c2 => ?_⟩
  · cases e : has z (es.getD k default).dst.toNat
    · have := h1.1 c2 e; omega
    · rfl
  · cases e : has z (es.getD k default).src.toNat
    · have := h1.2 e c2; omega
    · rfl
theorem parted_sides {n s t : Int} {es : List Arc} (hg : GOk n es 0) : ∀ i : Nat,
    ((List.range i).foldl (fun x (k : Nat) => pstep s t es x (k : Int)) (-1, 0, 0)).1 = -1 ∧ (∀ k : Nat, k < i → ¬ (bit (k : Int) s = 1 ∧ bit (k : Int) t = 0)) ∨
    (0 ≤ ((List.range i).foldl (fun x (k : Nat) => pstep s t es x (k : Int)) (-1, 0, 0)).2.1 ∧ 0 ≤ ((List.range i).foldl (fun x (k : Nat) => pstep s t es x (k : Int)) (-1, 0, 0)).2.2 ∧
    (∀ k : Nat, k < i → bit (k : Int) s = 1 → bit (k : Int) t = 0 → capOf es (k : Int) = ((List.range i).foldl (fun x (k : Nat) => pstep s t es x (k : Int)) (-1, 0, 0)).1 →
      sub ((List.range i).foldl (fun x (k : Nat) => pstep s t es x (k : Int)) (-1, 0, 0)).2.1 (k : Int) ∧ sub (k : Int) ((List.range i).foldl (fun x (k : Nat) => pstep s t es x (k : Int)) (-1, 0, 0)).2.2) ∧
    (∀ v, has ((List.range i).foldl (fun x (k : Nat) => pstep s t es x (k : Int)) (-1, 0, 0)).2.1 v = false → ∃ k : Nat, k < i ∧ bit (k : Int) s = 1 ∧ bit (k : Int) t = 0 ∧ capOf es (k : Int) = ((List.range i).foldl (fun x (k : Nat) => pstep s t es x (k : Int)) (-1, 0, 0)).1 ∧ has (k : Int) v = false) ∧
    (∀ v, has ((List.range i).foldl (fun x (k : Nat) => pstep s t es x (k : Int)) (-1, 0, 0)).2.2 v = true → ∃ k : Nat, k < i ∧ bit (k : Int) s = 1 ∧ bit (k : Int) t = 0 ∧ capOf es (k : Int) = ((List.range i).foldl (fun x (k : Nat) => pstep s t es x (k : Int)) (-1, 0, 0)).1 ∧ has (k : Int) v = true)) := by
  intro i
  induction i with
  | zero => exact .inl ⟨rfl, fun k hk => by omega⟩
  | succ i ih =>
    have hpf := parted_fold (s := s) (t := t) hg i
    rw [List.range_succ, List.foldl_append]
    simp only [List.foldl_cons, List.foldl_nil]
    generalize (List.range i).foldl (fun x (k : Nat) => pstep s t es x (k : Int)) (-1, 0, 0) = x at ih hpf
    have hi0 : (0 : Int) ≤ (i : Int) := by omega
    by_cases hv : bit (i : Int) s = 1 ∧ bit (i : Int) t = 0
    · have hc := capOf_in hg hi0
      have hst : pstep s t es x (i : Int) = if x.1 < 0 ∨ capOf es (i : Int) < x.1 then (capOf es (i : Int), (i : Int), (i : Int)) else if capOf es (i : Int) = x.1 then (x.1, iand x.2.1 (i : Int), ior x.2.2 (i : Int)) else x := by
        rw [pstep, if_neg (by omega)]
      rw [hst]
      by_cases hlt : x.1 < 0 ∨ capOf es (i : Int) < x.1
      · rw [if_pos hlt]
        refine .inr ⟨hi0, hi0, fun k hk hs ht hcap => ?_, fun v hvv => ⟨i, by omega, hv.1, hv.2, rfl, hvv⟩, fun v hvv => ⟨i, by omega, hv.1, hv.2, rfl, hvv⟩⟩
        rcases Nat.lt_succ_iff_lt_or_eq.1 hk with h | h
        · rcases hpf with ⟨_, h2⟩ | ⟨⟨k', k1, k2, k3, k4⟩, h2⟩
          · exact absurd ⟨hs, ht⟩ (h2 k h)
          · have := h2 k h hs ht
            have := capOf_in hg (z := (k' : Int)) (by omega)
            simp only at hcap
            omega
        · subst h; exact ⟨sub_refl _, sub_refl _⟩
      · rw [if_neg hlt]
        rcases ih with ⟨h1, _⟩ | ⟨l0, m0, hsub, hl, hm⟩
        · exact absurd (.inl (by omega)) hlt
        by_cases heq : capOf es (i : Int) = x.1
        · rw [if_pos heq]
          refine .inr ⟨iand0 _ _, ior0 _ _, fun k hk hs ht hcap => ?_, fun v hvv => ?_, fun v hvv => ?_⟩
          · rcases Nat.lt_succ_iff_lt_or_eq.1 hk with h | h
            · obtain ⟨h1, h2⟩ := hsub k h hs ht hcap
              exact ⟨fun v hv => h1 v (by simp only [has_iand, Bool.and_eq_true] at hv; exact hv.1), fun v hv => by simp only [has_ior, h2 v hv]; rfl⟩
            · subst h
              exact ⟨fun v hv => by simp only [has_iand, Bool.and_eq_true] at hv; exact hv.2, fun v hv => by simp only [has_ior, hv, Bool.or_true]⟩
          · simp only [has_iand, Bool.and_eq_false_iff] at hvv
            rcases hvv with hvv | hvv
            · obtain ⟨k, k1, k2⟩ := hl v hvv; exact ⟨k, by omega, k2⟩
            · exact ⟨i, by omega, hv.1, hv.2, heq, hvv⟩
          · simp only [has_ior, Bool.or_eq_true] at hvv
            rcases hvv with hvv | hvv
            · obtain ⟨k, k1, k2⟩ := hm v hvv; exact ⟨k, by omega, k2⟩
            · exact ⟨i, by omega, hv.1, hv.2, heq, hvv⟩
        · rw [if_neg heq]
          refine .inr ⟨l0, m0, fun k hk hs ht hcap => ?_, fun v hvv => ?_, fun v hvv => ?_⟩
          · rcases Nat.lt_succ_iff_lt_or_eq.1 hk with h | h
            · exact hsub k h hs ht hcap
            · subst h; exact absurd hcap heq
          · obtain ⟨k, k1, k2⟩ := hl v hvv; exact ⟨k, by omega, k2⟩
          · obtain ⟨k, k1, k2⟩ := hm v hvv; exact ⟨k, by omega, k2⟩
    · rw [pstep_skip hv hi0]
      rcases ih with ⟨h1, h2⟩ | ⟨l0, m0, hsub, hl, hm⟩
      · refine .inl ⟨h1, fun k hk => ?_⟩
        rcases Nat.lt_succ_iff_lt_or_eq.1 hk with h | h
        · exact h2 k h
        · subst h; exact hv
      · refine .inr ⟨l0, m0, fun k hk hs ht hcap => ?_, fun v hvv => ?_, fun v hvv => ?_⟩
        · rcases Nat.lt_succ_iff_lt_or_eq.1 hk with h | h
          · exact hsub k h hs ht hcap
          · subst h; exact absurd ⟨hs, ht⟩ hv
        · obtain ⟨k, k1, k2⟩ := hl v hvv; exact ⟨k, by omega, k2⟩
        · obtain ⟨k, k1, k2⟩ := hm v hvv; exact ⟨k, by omega, k2⟩
/-- A side of the least Cap. -/
def MinCut (n s t : Int) (es : List Arc) (z : Int) : Prop := Parts n s t z ∧ capOf es z = (parted n s t es).1
theorem MinCut.at_ {n s t : Int} {es : List Arc} {z : Int} (h : MinCut n s t es z) : ∃ k : Nat, z = (k : Int) ∧ k < 2 ^ n.toNat ∧ bit (k : Int) s = 1 ∧ bit (k : Int) t = 0 ∧ capOf es (k : Int) = (parted n s t es).1 := by
  obtain ⟨⟨z0, z1, z2, z3⟩, hc⟩ := h
  have hzn : ((z.toNat : Nat) : Int) = z := by omega
  exact ⟨z.toNat, hzn.symm, by omega, by rw [hzn]; exact z2, by rw [hzn]; exact z3, by rw [hzn]; exact hc⟩
theorem MinCut.clo {n s t : Int} {es : List Arc} {f : List Int} {z : Int} (h : MinCut n s t es z) (hf : FlOk n s t es f) (hv : gone es f s = (parted n s t es).1) : Clo es f false z :=
  clo_of_shut h.1.1 (side_shut h.1.1 hf.fin (by rw [side_value hf h.1, hv, h.2])) hf.fin
theorem MinCut.exists_ {n s t : Int} {es : List Arc} (hok : NOk n s t es) : ∃ z, MinCut n s t es z := by
  have hg := hok.toGOk
  have h4 := hok.s0; have h5 := hok.s1; have h6 := hok.t0; have h7 := hok.t1; have hne := hok.ne
  rcases parted_fold (s := s) (t := t) hg (2 ^ n.toNat) with ⟨_, h2⟩ | ⟨⟨k, k1, k2, k3, k4⟩, _⟩
  · refine absurd ⟨?_, ?_⟩ (h2 (2 ^ s.toNat) (Nat.pow_lt_pow_right (by decide) (by omega)))
    · rw [bit_yes (Int.natCast_nonneg _), ← pow_nat, ← Int.one_mul (2 ^ s.toNat), has_pow]; simp
    · rw [bit_no (Int.natCast_nonneg _), ← pow_nat, ← Int.one_mul (2 ^ s.toNat), has_pow]; simp; omega
  · exact ⟨(k : Int), ⟨by omega, by omega, k2, k3⟩, k4.symm⟩
/-! ### Both of two sides, and all of them: what they take -/
theorem bit_iand {a b : Int} (ha : 0 ≤ a) (hb : 0 ≤ b) (v : Int) : bit (iand a b) v = if bit a v = 1 ∧ bit b v = 1 then 1 else 0 := by
  rw [bit_has v (iand0 _ _), bit_has v ha, bit_has v hb, has_iand]
  cases has a v.toNat <;> cases has b v.toNat <;> rfl
theorem bit_ior {a b : Int} (ha : 0 ≤ a) (hb : 0 ≤ b) (v : Int) : bit (ior a b) v = if bit a v = 1 ∨ bit b v = 1 then 1 else 0 := by
  rw [bit_has v (ior0 _ _), bit_has v ha, bit_has v hb, has_ior]
  cases has a v.toNat <;> cases has b v.toNat <;> rfl
theorem cap_sub {a b : Int} (ha : 0 ≤ a) (hb : 0 ≤ b) : ∀ {es : List Arc}, (∀ x ∈ es, 0 ≤ x.cap) → capOf es (iand a b) + capOf es (ior a b) ≤ capOf es a + capOf es b
  | [], _ => by simp [capOf]
  | x :: r, h => by
    have h1 := cap_sub ha hb (es := r) (fun y hy => h y (List.mem_cons_of_mem _ hy))
    have h2 := h x List.mem_cons_self
    simp only [capOf]
    rw [bit_iand ha hb, bit_iand ha hb, bit_ior ha hb, bit_ior ha hb]
    rcases bit_01 x.src ha with e1 | e1 <;> rcases bit_01 x.dst ha with e2 | e2 <;> rcases bit_01 x.src hb with e3 | e3 <;> rcases bit_01 x.dst hb with e4 | e4 <;> rw [e1, e2, e3, e4] <;> simp <;> omega
theorem MinCut.min {n s t : Int} {es : List Arc} (hg : GOk n es 0) {z w : Int} (h : MinCut n s t es z) (hw : Parts n s t w) : capOf es z ≤ capOf es w := by
  obtain ⟨w0, w1, w2, w3⟩ := hw
  have hwn : ((w.toNat : Nat) : Int) = w := by omega
  rw [h.2]
  rcases parted_fold (s := s) (t := t) hg (2 ^ n.toNat) with ⟨_, h2⟩ | ⟨_, h2⟩
  · exact absurd (by rw [hwn]; exact ⟨w2, w3⟩) (h2 w.toNat (by omega))
  · have := h2 w.toNat (by omega) (by rw [hwn]; exact w2) (by rw [hwn]; exact w3)
    rwa [hwn] at this
theorem MinCut.meet {n s t : Int} {es : List Arc} (hg : GOk n es 0) {a b : Int} (h1 : MinCut n s t es a) (h2 : MinCut n s t es b) : MinCut n s t es (iand a b) ∧ MinCut n s t es (ior a b) := by
  have hl1 : ∀ v, n.toNat ≤ v → has a v = false := fun v hv => has_lt h1.1.1 h1.1.2.1 hv
  have hl2 : ∀ v, n.toNat ≤ v → has b v = false := fun v hv => has_lt h2.1.1 h2.1.2.1 hv
  have p1 : Parts n s t (iand a b) := ⟨iand0 _ _, lt_has (iand0 _ _) fun v hv => by rw [has_iand, hl1 v hv]; rfl, by rw [bit_iand h1.1.1 h2.1.1, if_pos ⟨h1.1.2.2.1, h2.1.2.2.1⟩], by rw [bit_iand h1.1.1 h2.1.1, if_neg (by rw [h1.1.2.2.2]; simp)]⟩
  have p2 : Parts n s t (ior a b) := ⟨ior0 _ _, lt_has (ior0 _ _) fun v hv => by rw [has_ior, hl1 v hv, hl2 v hv]; rfl, by rw [bit_ior h1.1.1 h2.1.1, if_pos (.inl h1.1.2.2.1)], by rw [bit_ior h1.1.1 h2.1.1, if_neg (by rw [h1.1.2.2.2, h2.1.2.2.2]; simp)]⟩
  have hs := cap_sub h1.1.1 h2.1.1 (es := es) (fun x hx => (hg.arc x hx).2.2.2.2.1)
  have m1 := h1.min hg p1
  have m2 := h1.min hg p2
  have e1 := h1.2
  have e2 := h2.2
  exact ⟨⟨p1, by omega⟩, ⟨p2, by omega⟩⟩
/-- The least side is a side of the least Cap. -/
theorem MinCut.low {n s t : Int} {es : List Arc} (hok : NOk n s t es) : MinCut n s t es (parted n s t es).2.1 ∧ ∀ w, MinCut n s t es w → sub (parted n s t es).2.1 w := by
  have hg := hok.toGOk
  have hps := parted_sides (s := s) (t := t) hg (2 ^ n.toNat)
  obtain ⟨z, hz⟩ := MinCut.exists_ hok
  obtain ⟨k, rfl, k1, k2, k3, k4⟩ := hz.at_
  change (parted n s t es).1 = -1 ∧ _ ∨ (0 ≤ (parted n s t es).2.1 ∧ 0 ≤ (parted n s t es).2.2 ∧ _ ∧ _ ∧ _) at hps
  rcases hps with ⟨_, h2⟩ | ⟨l0, m0, hsub, hl, _⟩
  · exact absurd ⟨k2, k3⟩ (h2 k k1)
  have hall : ∀ w, MinCut n s t es w → sub (parted n s t es).2.1 w := fun w hw => by
    obtain ⟨j, rfl, j1, j2, j3, j4⟩ := hw.at_
    exact (hsub j j1 j2 j3 j4).1
  have key : ∀ m : Nat, ∃ w, MinCut n s t es w ∧ ∀ v, v < m → has (parted n s t es).2.1 v = false → has w v = false := by
    intro m
    induction m with
    | zero => exact ⟨_, hz, fun v hv => by omega⟩
    | succ m ih =>
      obtain ⟨w, hw, h1⟩ := ih
      cases e : has (parted n s t es).2.1 m
      · obtain ⟨j, j1, j2, j3, j4, j5⟩ := hl m e
        refine ⟨iand w (j : Int), (hw.meet hg ⟨⟨by omega, by omega, j2, j3⟩, j4⟩).1, fun v hv hvv => ?_⟩
        rw [has_iand]
        rcases Nat.lt_succ_iff_lt_or_eq.1 hv with h | h
        · rw [h1 v h hvv]; rfl
        · subst h; rw [j5]; cases has w v <;> rfl
      · refine ⟨w, hw, fun v hv hvv => ?_⟩
        rcases Nat.lt_succ_iff_lt_or_eq.1 hv with h | h
        · exact h1 v h hvv
        · subst h; rw [e] at hvv; cases hvv
  obtain ⟨w, hw, h1⟩ := key n.toNat
  have hwe : w = (parted n s t es).2.1 := by
    refine sub_antisymm hw.1.1 l0 (fun v hv => ?_) (hall w hw)
    cases e : has (parted n s t es).2.1 v
    · by_cases hvn : v < n.toNat
      · rw [h1 v hvn e] at hv; cases hv
      · rw [has_lt hw.1.1 hw.1.2.1 (by omega)] at hv; cases hv
    · rfl
  exact ⟨hwe ▸ hw, hall⟩
end Go.Ab

/- Of graphs whose arcs go both ways: the plain laws. -/
namespace Go.Ab
def backA (a : Arc) : Arc := ⟨a.dst, a.src, a.cap⟩
def bothA (es : List Arc) : List Arc := es ++ es.map backA
theorem GOk.both {n : Int} {es : List Arc} (h : GOk n es 0) (h30 : es.length ≤ 30) : GOk n (bothA es) 0 :=
  ⟨h.n1, h.n2, by unfold bothA; simp; omega, fun a ha => by
    rcases List.mem_append.1 ha with ha | ha
    · exact h.arc a ha
    · obtain ⟨b, hb, rfl⟩ := List.mem_map.1 ha
      obtain ⟨h1, h2, h3, h4, h5, h6⟩ := h.arc b hb
      exact ⟨h3, h4, h1, h2, h5, h6⟩⟩
end Go.Ab
