/- Of ways that have no node in common (MENGER): what parts them. The plain laws. -/
import Derived.Test.YteccjcionjkllaaPlPaths
import Derived.Test.YteccjcionjkllaaPlClose
import Derived.Test.YteccjcionjkllaaPlB
namespace Go.Ab
def nodesTo (s t : Int) : Nat → List Int
  | 0 => []
  | k + 1 => if (k : Int) ≠ s ∧ (k : Int) ≠ t then nodesTo s t k ++ [(k : Int)] else nodesTo s t k
theorem nodesTo_mem {s t x : Int} : ∀ {k : Nat}, x ∈ nodesTo s t k ↔ 0 ≤ x ∧ x < k ∧ x ≠ s ∧ x ≠ t
  | 0 => by simp [nodesTo]; omega
  | k + 1 => by
    have ih := nodesTo_mem (s := s) (t := t) (x := x) (k := k)
    unfold nodesTo
    split
    · rename_i h
      rw [List.mem_append, List.mem_singleton, ih]
      constructor
      · rintro (⟨a, b, c⟩ | rfl)
        · exact ⟨a, by omega, c⟩
        · exact ⟨by omega, by omega, h⟩
      · rintro ⟨a, b, c⟩
        by_cases e : x = k
        · exact .inr e
        · exact .inl ⟨a, by omega, c⟩
    · rename_i h
      rw [ih]
      constructor
      · rintro ⟨a, b, c⟩; exact ⟨a, by omega, c⟩
      · rintro ⟨a, b, c⟩
        refine ⟨a, ?_, c⟩
        by_cases e : x = k
        · rw [e] at c; exact absurd c h
        · omega
theorem nodesTo_up {s t : Int} : ∀ {k : Nat}, (nodesTo s t k).Pairwise (· < ·)
  | 0 => List.Pairwise.nil
  | k + 1 => by
    unfold nodesTo
    split
    · refine List.pairwise_append.2 ⟨nodesTo_up, List.pairwise_singleton _ _, fun a ha b hb => ?_⟩
      rw [List.mem_singleton.1 hb]
      exact (nodesTo_mem.1 ha).2.1
    · exact nodesTo_up
theorem nodesTo_len {s t : Int} (hs : 0 ≤ s) (ht : 0 ≤ t) (hne : s ≠ t) : ∀ k : Nat, (nodesTo s t k).length + (if s < k then 1 else 0) + (if t < k then 1 else 0) = k
  | 0 => by rw [if_neg (by omega), if_neg (by omega)]; rfl
  | k + 1 => by
    have ih := nodesTo_len hs ht hne k
    unfold nodesTo
    split
    · rename_i h
      rw [List.length_append, List.length_singleton]
      by_cases h1 : s < k <;> by_cases h2 : t < k <;> simp only [h1, h2, if_true, if_false] at ih ⊢ <;> split <;> split <;> omega
    · rename_i h
      by_cases h1 : s < k <;> by_cases h2 : t < k <;> simp only [h1, h2, if_true, if_false] at ih ⊢ <;> split <;> split <;> omega
theorem nodesTo_le (s t : Int) : ∀ k : Nat, (nodesTo s t k).length ≤ k
  | 0 => Nat.le_refl _
  | k + 1 => by
    have := nodesTo_le s t k
    unfold nodesTo
    split
    · rw [List.length_append, List.length_singleton]; omega
    · omega
theorem nodesTo_yes {s t : Int} {k : Nat} (h : (k : Int) ≠ s ∧ (k : Int) ≠ t) : nodesTo s t (k + 1) = nodesTo s t k ++ [(k : Int)] := by rw [nodesTo, if_pos h]
theorem nodesTo_no {s t : Int} {k : Nat} (h : ¬ ((k : Int) ≠ s ∧ (k : Int) ≠ t)) : nodesTo s t (k + 1) = nodesTo s t k := by rw [nodesTo, if_neg h]
def keepB (s t : Int) (a : Arc) : Prop := a.src ≠ t ∧ a.dst ≠ s ∧ a.src ≠ a.dst
instance (s t : Int) (a : Arc) : Decidable (keepB s t a) := by unfold keepB; infer_instance
def keptTo (es : List Arc) (s t : Int) : Nat → List Int
  | 0 => []
  | k + 1 => if keepB s t (es.getD k default) then keptTo es s t k ++ [(k : Int)] else keptTo es s t k
theorem keptTo_yes {es : List Arc} {s t : Int} {k : Nat} (h : keepB s t (es.getD k default)) : keptTo es s t (k + 1) = keptTo es s t k ++ [(k : Int)] := by rw [keptTo, if_pos h]
theorem keptTo_no {es : List Arc} {s t : Int} {k : Nat} (h : ¬ keepB s t (es.getD k default)) : keptTo es s t (k + 1) = keptTo es s t k := by rw [keptTo, if_neg h]
theorem keptTo_mem {es : List Arc} {s t x : Int} : ∀ {k : Nat}, x ∈ keptTo es s t k ↔ 0 ≤ x ∧ x < k ∧ keepB s t (es.getD x.toNat default)
  | 0 => by simp [keptTo]; omega
  | k + 1 => by
    have ih := keptTo_mem (es := es) (s := s) (t := t) (x := x) (k := k)
    unfold keptTo
    split
    · rename_i h
      rw [List.mem_append, List.mem_singleton, ih]
      constructor
      · rintro (⟨a, b, c⟩ | rfl)
        · exact ⟨a, by omega, c⟩
        · exact ⟨by omega, by omega, by rw [Int.toNat_natCast]; exact h⟩
      · rintro ⟨a, b, c⟩
        by_cases e : x = k
        · exact .inr e
        · exact .inl ⟨a, by omega, c⟩
    · rename_i h
      rw [ih]
      constructor
      · rintro ⟨a, b, c⟩; exact ⟨a, by omega, c⟩
      · rintro ⟨a, b, c⟩
        refine ⟨a, ?_, c⟩
        by_cases e : x = k
        · rw [e, Int.toNat_natCast] at c; exact absurd c h
        · omega
theorem keptTo_up {es : List Arc} {s t : Int} : ∀ {k : Nat}, (keptTo es s t k).Pairwise (· < ·)
  | 0 => List.Pairwise.nil
  | k + 1 => by
    unfold keptTo
    split
    · refine List.pairwise_append.2 ⟨keptTo_up, List.pairwise_singleton _ _, fun a ha b hb => ?_⟩
      rw [List.mem_singleton.1 hb]
      exact (keptTo_mem.1 ha).2.1
    · exact keptTo_up
theorem keptTo_le (es : List Arc) (s t : Int) : ∀ k : Nat, (keptTo es s t k).length ≤ k
  | 0 => Nat.le_refl _
  | k + 1 => by
    have := keptTo_le es s t k
    unfold keptTo
    split
    · rw [List.length_append, List.length_singleton]; omega
    · omega
def nodeA (k : Int) : Arc := ⟨2 * k, 2 * k + 1, 1⟩
def keepA (a : Arc) : Arc := ⟨2 * a.src + 1, 2 * a.dst, 12⟩
def keepK (es : List Arc) (k : Int) : Arc := keepA (es.getD k.toNat default)
def aloneTo (es : List Arc) (s t n : Int) (k : Nat) : List Arc := (nodesTo s t n.toNat).map nodeA ++ (keptTo es s t k).map (keepK es)
def aloneNet (n s t : Int) (es : List Arc) : List Arc := aloneTo es s t n es.length
def direct (s t : Int) (a : Arc) : Bool := decide (a.src = s) && decide (a.dst = t)
def aloneErr (n s t : Int) (es : List Arc) : Int :=
  if netErr n s t es ≠ 0 then netErr n s t es else if 6 < n ∨ 30 < es.length then 2 else if es.any (direct s t) = true then 9 else 0
structure AlOk (n s t : Int) (es : List Arc) : Prop extends NOk n s t es where
  n6 : n ≤ 6
  l30 : es.length ≤ 30
  nod : ∀ a ∈ es, ¬ (a.src = s ∧ a.dst = t)
theorem aloneErr_ok {n s t : Int} {es : List Arc} (h : aloneErr n s t es = 0) : AlOk n s t es := by
  unfold aloneErr at h
  split at h
  · omega
  · rename_i h1
    split at h
    · omega
    · rename_i h2
      split at h
      · omega
      · rename_i h3
        refine ⟨netErr_ok (by omega), by omega, by omega, fun a ha q => h3 ?_⟩
        rw [List.any_eq_true]
        exact ⟨a, ha, by unfold direct; rw [decide_eq_true q.1, decide_eq_true q.2]; rfl⟩
theorem AlOk.nodes {n s t : Int} {es : List Arc} (h : AlOk n s t es) : ((nodesTo s t n.toNat).length : Int) = n - 2 := by
  have := nodesTo_len h.s0 h.t0 h.ne n.toNat
  have h1 := h.s1
  have h2 := h.t1
  rw [if_pos (by omega), if_pos (by omega)] at this
  omega
theorem alone_mem {n s t : Int} {es : List Arc} {a : Arc} (ha : a ∈ aloneNet n s t es) : (∃ k, 0 ≤ k ∧ k < n ∧ k ≠ s ∧ k ≠ t ∧ a = nodeA k) ∨ ∃ b ∈ es, keepB s t b ∧ a = keepA b := by
  unfold aloneNet aloneTo at ha
  rcases List.mem_append.1 ha with ha | ha
  · obtain ⟨k, hk, rfl⟩ := List.mem_map.1 ha
    have := nodesTo_mem.1 hk
    exact .inl ⟨k, this.1, by omega, this.2.2.1, this.2.2.2, rfl⟩
  · obtain ⟨k, hk, rfl⟩ := List.mem_map.1 ha
    have := keptTo_mem.1 hk
    exact .inr ⟨_, getD_mem (by omega), this.2.2, rfl⟩
theorem alone_keep {n s t : Int} {es : List Arc} {b : Arc} (hb : b ∈ es) (hk : keepB s t b) : keepA b ∈ aloneNet n s t es := by
  obtain ⟨i, hi, rfl⟩ := mem_getD default hb
  exact List.mem_append_right _ (List.mem_map.2 ⟨(i : Int), keptTo_mem.2 ⟨by omega, by omega, by rw [Int.toNat_natCast]; exact hk⟩, by rw [keepK, Int.toNat_natCast]⟩)
theorem AlOk.net {n s t : Int} {es : List Arc} (h : AlOk n s t es) : NOk (2 * n) (2 * s + 1) (2 * t) (aloneNet n s t es) := by
  have h1 := h.n1
  have h6 := h.n6
  have h30 := h.l30
  have hn := h.nodes
  have hk := keptTo_le es s t es.length
  have s0 := h.s0
  have s1 := h.s1
  have t0 := h.t0
  have t1 := h.t1
  refine ⟨⟨by omega, by omega, ?_, fun a ha => ?_⟩, by omega, by omega, by omega, by omega, by omega⟩
  · unfold aloneNet aloneTo
    rw [List.length_append, List.length_map, List.length_map]
    omega
  · rcases alone_mem ha with ⟨k, k0, k1, _, _, rfl⟩ | ⟨b, hb, _, rfl⟩
    · simp only [nodeA, ArcOk]; omega
    · obtain ⟨b1, b2, b3, b4, _, _⟩ := h.arc b hb
      simp only [keepA, ArcOk]; omega
theorem cap_ge {z : Int} (hz : 0 ≤ z) {a : Arc} : ∀ {es : List Arc}, (∀ x ∈ es, 0 ≤ x.cap) → a ∈ es → bit z a.src = 1 → bit z a.dst = 0 → a.cap ≤ capOf es z
  | b :: r, hp, ha, h1, h2 => by
    have hb := hp b List.mem_cons_self
    have hr : 0 ≤ capOf r z := by
      clear ha
      have hp2 := fun x hx => hp x (List.mem_cons_of_mem _ hx)
      clear hp
      induction r with
      | nil => simp [capOf]
      | cons c r ih =>
        have hc := hp2 c List.mem_cons_self
        have := ih fun x hx => hp2 x (List.mem_cons_of_mem _ hx)
        simp only [capOf]
        rw [cap_if hz]
        split <;> omega
    simp only [capOf]
    rw [cap_if hz]
    rcases List.mem_cons.1 ha with rfl | ha
    · rw [if_pos ⟨h1, h2⟩]; omega
    · have := cap_ge hz (fun x hx => hp x (List.mem_cons_of_mem _ hx)) ha h1 h2
      split <;> omega
theorem cap_none {z : Int} (hz : 0 ≤ z) : ∀ {es : List Arc}, (∀ x ∈ es, ¬ (bit z x.src = 1 ∧ bit z x.dst = 0)) → capOf es z = 0
  | [], _ => rfl
  | b :: r, h => by
    simp only [capOf]
    rw [cap_if hz, if_neg (h b List.mem_cons_self), cap_none hz fun x hx => h x (List.mem_cons_of_mem _ hx)]
    rfl
def crossB (z k : Int) : Bool := decide (bit z (2 * k) = 1) && decide (bit z (2 * k + 1) = 0)
theorem cap_nodes {z : Int} (hz : 0 ≤ z) : ∀ l : List Int, capOf (l.map nodeA) z = ((l.filter (crossB z)).length : Int)
  | [] => rfl
  | k :: r => by
    have ih := cap_nodes hz r
    rw [List.map_cons]
    show (1 : Int) * bit z (2 * k) * (1 - bit z (2 * k + 1)) + capOf (r.map nodeA) z = _
    rw [cap_if hz, ih, List.filter_cons]
    by_cases h : bit z (2 * k) = 1 ∧ bit z (2 * k + 1) = 0
    · rw [if_pos h, if_pos (by unfold crossB; rw [decide_eq_true h.1, decide_eq_true h.2]; rfl), List.length_cons]; omega
    · rw [if_neg h, if_neg (fun q => by simp only [crossB, Bool.and_eq_true, decide_eq_true_eq] at q; exact h q)]; omega
def restZ (z : Int) (es : List Arc) : List Arc := es.filter fun a => decide (bit z a.src = 0) && decide (bit z a.dst = 0)
theorem restZ_mem {z : Int} {es : List Arc} {a : Arc} : a ∈ restZ z es ↔ a ∈ es ∧ bit z a.src = 0 ∧ bit z a.dst = 0 := by
  unfold restZ; rw [List.mem_filter]; simp
theorem restZ_le (z : Int) (es : List Arc) : (restZ z es).length ≤ es.length := List.length_filter_le _ _
theorem restZ_yes {z : Int} {es : List Arc} {k : Nat} (hk : k < es.length) (h : bit z (es.getD k default).src = 0 ∧ bit z (es.getD k default).dst = 0) : restZ z (es.take (k + 1)) = restZ z (es.take k) ++ [es.getD k default] := by
  rw [take_getD es default k hk, restZ, List.filter_append]
  simp only [restZ, List.filter_cons, List.filter_nil]
  rw [if_pos (by rw [decide_eq_true h.1, decide_eq_true h.2]; rfl)]
theorem restZ_no {z : Int} {es : List Arc} {k : Nat} (hk : k < es.length) (h : ¬ (bit z (es.getD k default).src = 0 ∧ bit z (es.getD k default).dst = 0)) : restZ z (es.take (k + 1)) = restZ z (es.take k) := by
  rw [take_getD es default k hk, restZ, List.filter_append]
  simp only [restZ, List.filter_cons, List.filter_nil]
  rw [if_neg (fun q => by simp only [Bool.and_eq_true, decide_eq_true_eq] at q; exact h q), List.append_nil]
theorem restZ_inR {n z : Int} {es : List Arc} (h : InR n es) : InR n (restZ z es) := fun a ha => h a (restZ_mem.1 ha).1
def blockedB (s t : Int) (es : List Arc) (z : Int) : Bool := decide (1099511627776 ≤ dist (restZ z es) s t)
theorem blocked_iff {n s t z : Int} {es : List Arc} (h12 : n ≤ 12) (hA : InR n es) : blockedB s t es z = true ↔ ∀ j, wk (restZ z es) j s t = false := by
  unfold blockedB
  rw [decide_eq_true_eq]
  rcases dist_cases h12 (restZ_inR (z := z) hA) s t with ⟨k, h1, h2, h3, _⟩ | ⟨h1, h2⟩
  · constructor
    · intro h; omega
    · intro h; rw [h k] at h3; cases h3
  · exact ⟨fun _ => h2, fun _ => by omega⟩
def onesOf (z : Int) : Int := (many z 16 : Int)
def bostep (s t : Int) (es : List Arc) (b : Int) (z : Int) : Int :=
  if (bit z s = 0 ∧ bit z t = 0) ∧ blockedB s t es z = true then min b (onesOf z) else b
def blockOf (n s t : Int) (es : List Arc) : Int := (List.range (2 ^ n.toNat)).foldl (fun b (k : Nat) => bostep s t es b (k : Int)) n
def Bars (s t : Int) (es : List Arc) (z : Int) : Prop := (bit z s = 0 ∧ bit z t = 0) ∧ blockedB s t es z = true
theorem blockOf_fold {n s t : Int} {es : List Arc} {m : Int} (hm : m ≤ n) (hall : ∀ k : Nat, Bars s t es (k : Int) → m ≤ onesOf (k : Int)) : ∀ i : Nat,
    m ≤ (List.range i).foldl (fun b (k : Nat) => bostep s t es b (k : Int)) n ∧ ∀ k, k < i → Bars s t es (k : Int) → (List.range i).foldl (fun b (k : Nat) => bostep s t es b (k : Int)) n ≤ onesOf (k : Int)
  | 0 => ⟨hm, fun k hk => by omega⟩
  | i + 1 => by
    obtain ⟨h1, h2⟩ := blockOf_fold hm hall i
    rw [List.range_succ, List.foldl_append]
    simp only [List.foldl_cons, List.foldl_nil]
    generalize (List.range i).foldl (fun b (k : Nat) => bostep s t es b (k : Int)) n = b at h1 h2
    unfold bostep
    by_cases hb : (bit (i : Int) s = 0 ∧ bit (i : Int) t = 0) ∧ blockedB s t es (i : Int) = true
    · rw [if_pos hb]
      have := hall i hb
      refine ⟨by omega, fun k hk q => ?_⟩
      by_cases e : k = i
      · subst e; omega
      · have := h2 k (by omega) q; omega
    · rw [if_neg hb]
      refine ⟨h1, fun k hk q => ?_⟩
      by_cases e : k = i
      · subst e; exact absurd q hb
      · exact h2 k (by omega) q
def bitsOf (l : List Int) : Int := l.foldl (fun z k => ior z (1 * 2 ^ k.toNat)) 0
theorem bitsOf_snoc (l : List Int) (k : Int) : bitsOf (l ++ [k]) = ior (bitsOf l) (1 * 2 ^ k.toNat) := by unfold bitsOf; rw [List.foldl_append]; rfl
theorem list_rev {α : Type} {P : List α → Prop} (h0 : P []) (h1 : ∀ l a, P l → P (l ++ [a])) : ∀ l, P l := by
  intro l
  rw [← List.reverse_reverse l]
  induction l.reverse with
  | nil => exact h0
  | cons a r ih => rw [List.reverse_cons]; exact h1 _ _ ih
theorem bitsOf_has (v : Nat) (l : List Int) : has (bitsOf l) v = decide (∃ k ∈ l, k.toNat = v) := by
  induction l using list_rev with
  | h0 => simp [bitsOf, has_zero]
  | h1 l a ih =>
    rw [bitsOf_snoc, has_ior, ih, has_pow]
    by_cases h : a.toNat = v
    · rw [decide_eq_true h, Bool.or_true, decide_eq_true]
      exact ⟨a, by simp, h⟩
    · rw [decide_eq_false h, Bool.or_false]
      congr 1
      apply propext
      constructor
      · rintro ⟨k, hk, q⟩; exact ⟨k, List.mem_append_left _ hk, q⟩
      · rintro ⟨k, hk, q⟩
        rcases List.mem_append.1 hk with hk | hk
        · exact ⟨k, hk, q⟩
        · rw [List.mem_singleton.1 hk] at q; exact absurd q h
theorem bitsOf_nn (l : List Int) : 0 ≤ bitsOf l := by
  induction l using list_rev with
  | h0 => exact Int.le_refl 0
  | h1 l a _ => rw [bitsOf_snoc]; exact ior0 _ _
theorem bitsOf_bit {l : List Int} (h0 : ∀ k ∈ l, 0 ≤ k) {v : Int} (hv : 0 ≤ v) : bit (bitsOf l) v = 1 ↔ v ∈ l := by
  rw [bit_yes (bitsOf_nn l), bitsOf_has, decide_eq_true_eq]
  constructor
  · rintro ⟨k, hk, q⟩
    have := h0 k hk
    rw [show v = k by omega]; exact hk
  · intro h; exact ⟨v, h, rfl⟩
theorem many_add {z : Int} {u : Nat} (h : has z u = false) : ∀ {m : Nat}, many (ior z (1 * 2 ^ u)) m = many z m + if u < m then 1 else 0
  | 0 => rfl
  | m + 1 => by
    have ih := many_add h (m := m)
    unfold many
    rw [ih, has_ior, has_pow]
    by_cases e : u = m
    · subst e
      rw [if_pos (by simp : (has z u || decide (u = u)) = true), if_neg (by omega : ¬ u < u), if_neg (by rw [h]; simp : ¬ has z u = true), if_pos (by omega : u < u + 1)]
      omega
    · rw [decide_eq_false e, Bool.or_false]
      by_cases q : u < m
      · rw [if_pos q, if_pos (by omega : u < m + 1)]; omega
      · rw [if_neg q, if_neg (by omega : ¬ u < m + 1)]; omega
theorem bitsOf_many {m : Nat} (l : List Int) : l.Nodup → (∀ k ∈ l, 0 ≤ k ∧ k < m) → many (bitsOf l) m = l.length := by
  induction l using list_rev with
  | h0 =>
    intro _ _
    have : ∀ m, many 0 m = 0 := fun m => by
      induction m with
      | zero => rfl
      | succ m ih => unfold many; rw [has_zero, ih, if_neg (by simp)]
    exact this m
  | h1 l a ih =>
    intro hn hr
    obtain ⟨n1, _, n3⟩ := List.nodup_append.1 hn
    have i1 := ih n1 fun k hk => hr k (List.mem_append_left _ hk)
    have ha := hr a (by simp)
    rw [bitsOf_snoc, many_add, i1, if_pos (by omega), List.length_append, List.length_singleton]
    rw [bitsOf_has, decide_eq_false]
    rintro ⟨k, hk, q⟩
    have hk2 := hr k (List.mem_append_left _ hk)
    exact n3 k hk a (by simp) (by omega)
theorem bitsOf_lt {m : Nat} {l : List Int} (hr : ∀ k ∈ l, 0 ≤ k ∧ k < m) : bitsOf l < ((2 ^ m : Nat) : Int) := by
  refine lt_has (bitsOf_nn l) fun v hv => ?_
  rw [bitsOf_has, decide_eq_false]
  rintro ⟨k, hk, q⟩
  have := hr k hk
  omega
theorem many_ge {z : Int} {m : Nat} : ∀ {l : List Int}, l.Pairwise (· < ·) → (∀ k ∈ l, 0 ≤ k ∧ k < m ∧ has z k.toNat = true) → l.length ≤ many z m := by
  intro l hl hr
  have hnd : l.Nodup := hl.imp fun h => by omega
  rw [← bitsOf_many l hnd fun k hk => ⟨(hr k hk).1, (hr k hk).2.1⟩]
  refine many_sub (fun v hv => ?_) m
  rw [bitsOf_has, decide_eq_true_eq] at hv
  obtain ⟨k, hk, rfl⟩ := hv
  exact (hr k hk).2.2
end Go.Ab
