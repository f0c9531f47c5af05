/- Of trees and their codes, part two: the start, what hangs together, the reference's masks. -/
import Derived.Test.YtoghkabjfpolbaaPlTree
import Derived.Test.YtoghkabjfpolbaaPlGraph
namespace Go.Ab
/-! ### The start -/
def cntL (m : Nat) (l : List Int) : List Int := (List.range m).map fun (v : Nat) => occ l (v : Int)
theorem cntL_len (m : Nat) (l : List Int) : (cntL m l).length = m := by simp [cntL]
theorem cntL_at {m v : Nat} {l : List Int} (h : v < m) : (cntL m l).getD v 0 = occ l v := by
  rw [getD_lt (cntL m l) 0 v (by rw [cntL_len]; exact h)]; simp [cntL]
theorem occ_snoc (r : List Int) (k v : Int) : occ (r ++ [k]) v = occ r v + if k = v then 1 else 0 := by
  unfold occ; rw [List.countP_append, List.countP_cons, List.countP_nil]
  by_cases h : k = v
  · simp [h]
  · simp [h]
theorem cntL_step {m i : Nat} {l : List Int} (hi : i < l.length) (h0 : 0 ≤ l.getD i 0) (h1 : l.getD i 0 < m) :
    cntL m (l.take (i + 1)) = (cntL m (l.take i)).set (l.getD i 0).toNat ((cntL m (l.take i)).getD (l.getD i 0).toNat 0 + 1) := by
  refine list_ext 0 (by simp [cntL_len]) fun v hv => ?_
  rw [cntL_len] at hv
  rw [getD_set_if _ _ _ _ (by rw [cntL_len]; omega), cntL_at hv, cntL_at hv, cntL_at (by omega), take_getD l 0 i hi, occ_snoc]
  by_cases e : v = (l.getD i 0).toNat
  · rw [if_pos e, if_pos (by omega), e]
  · rw [if_neg e, if_neg (by omega), Int.add_zero]
theorem cntL_cons {m : Nat} {l : List Int} {k : Int} (h0 : 0 ≤ k) (h1 : k < m) : cntL m (k :: l) = (cntL m l).set k.toNat ((cntL m l).getD k.toNat 0 + 1) := by
  refine list_ext 0 (by simp [cntL_len]) fun v hv => ?_
  rw [cntL_len] at hv
  rw [getD_set_if _ _ _ _ (by rw [cntL_len]; omega), cntL_at hv, cntL_at hv, cntL_at (by omega), occ_cons]
  by_cases e : v = k.toNat
  · rw [if_pos e, if_pos (by omega), e]
  · rw [if_neg e, if_neg (by omega), Int.add_zero]
theorem cntL_sum {m : Nat} : ∀ {l : List Int}, (∀ x ∈ l, 0 ≤ x ∧ x < m) → sumZ (cntL m l) = l.length
  | [], _ => by
    have h : ∀ (l : List Nat), sumZ (l.map fun (v : Nat) => occ [] (v : Int)) = 0 := by
      intro l
      induction l with
      | nil => rfl
      | cons a l ih => rw [List.map_cons, sumZ, ih]; rfl
    exact h _
  | k :: l, h => by
    have hk := h k List.mem_cons_self
    rw [cntL_cons hk.1 hk.2, sumZ_set (by rw [cntL_len]; omega), cntL_sum fun x hx => h x (List.mem_cons_of_mem _ hx), List.length_cons]
    omega
theorem lft_start {l : List Int} (hr : ∀ x ∈ l, 0 ≤ x ∧ x < ((l.length + 2 : Nat) : Int)) : Lft (l.length + 2) (cntL (l.length + 2) l) l where
  len := cntL_len _ _
  rng := hr
  at_ := fun v hv => .inr (cntL_at hv)
  dead := by
    have : deadZ (cntL (l.length + 2) l) = 0 := by
      unfold deadZ
      rw [List.countP_eq_zero]
      intro x hx
      obtain ⟨v, _, rfl⟩ := List.mem_map.1 hx
      have := occ_pos (l := l) (v := (v : Int))
      simp; omega
    omega
  sum := by
    have : deadZ (cntL (l.length + 2) l) = 0 := by
      unfold deadZ
      rw [List.countP_eq_zero]
      intro x hx
      obtain ⟨v, _, rfl⟩ := List.mem_map.1 hx
      have := occ_pos (l := l) (v := (v : Int))
      simp; omega
    rw [cntL_sum hr, this]; omega
theorem cntL_pos {m v : Nat} {l : List Int} : 0 ≤ (cntL m l).getD v 0 := by
  by_cases h : v < m
  · rw [cntL_at h]; exact occ_pos
  · rw [getD_ge _ _ _ (by rw [cntL_len]; omega)]; omega
def badK (l : List Int) (k : Int) : Bool := decide (k < 0) || decide ((l.length : Int) + 1 < k)
def decErr (l : List Int) : Int := if 10 < l.length then 2 else if l.any (badK l) = true then 4 else 0
theorem decErr_ok {l : List Int} (h : decErr l = 0) : l.length ≤ 10 ∧ ∀ x ∈ l, 0 ≤ x ∧ x < ((l.length + 2 : Nat) : Int) := by
  unfold decErr at h
  split at h
  · cases h
  · split at h
    · cases h
    · rename_i h1 h2
      refine ⟨by omega, fun x hx => ?_⟩
      have h3 : badK l x = false := by
        cases hc : badK l x
        · rfl
        · exact absurd (List.any_eq_true.2 ⟨x, hx, hc⟩) h2
      unfold badK at h3
      rw [Bool.or_eq_false_iff] at h3
      have := of_decide_eq_false h3.1; have := of_decide_eq_false h3.2
      omega
/-! ### What hangs together -/
theorem dec_inR {n : Nat} {L r : List Int} (h : Lft n L r) : InR n (decT L r) := fun a ha => by
  have := dec_in h a ha; omega
theorem dec_err {n : Nat} {L r : List Int} (h : Lft n L r) (h1 : 1 ≤ n) (hn : n ≤ 12) (hr : r.length ≤ 10) : graphErr n (decT L r) (-10000) = 0 := by
  refine GOk.err ⟨by omega, by omega, by rw [dec_len]; omega, fun a ha => ?_⟩
  have := dec_in h a ha
  exact ⟨by omega, by omega, by omega, by omega, by omega, by omega⟩
theorem dec_zero {n : Nat} {L r : List Int} (h : Lft n L r) (h0 : 0 < n) (hn : n ≤ 12) (hp : ∀ v : Nat, v < n → 0 ≤ L.getD v 0) : joinedOf n (decT L r) = List.replicate n 0 := by
  refine list_ext 0 (by rw [joinedOf_len]; simp) fun v hv => ?_
  rw [joinedOf_len] at hv
  have hvn : (v : Int) < (n : Int) := by omega
  have hA := dec_inR h
  unfold joinedOf
  rw [getD_lt ((List.range (n : Int).toNat).map _) 0 v (by simpa using hv)]
  simp only [List.getElem_map, List.getElem_range]
  obtain ⟨p, hw⟩ := dec_joined h v 0 (by omega) h0 (hp v (by omega)) (hp 0 h0)
  have hyes : finB (((waysOf n (bothA (decT L r))).getD v []).getD 0 0) = true := by
    rw [waysOf_at (v := 0) hvn (by omega), finB_dist (by omega) hA.both]
    exact ⟨p, hw⟩
  rw [idxOf_at (i := 0) (fun j hj => by omega) (by rw [row_len hvn]; omega) hyes, getD_lt _ 0 v (by simp; omega)]
  simp
/-! ### The greatest number of a list -/
def maxL : List Int → Int
  | [] => 0
  | x :: r => r.foldl max x
theorem maxL_snoc {l : List Int} {x : Int} (h : 0 < l.length) : maxL (l ++ [x]) = max (maxL l) x := by
  cases l with
  | nil => simp at h
  | cons a r => simp [maxL]
theorem maxL_step {l : List Int} {i : Nat} (h1 : 1 ≤ i) (hi : i < l.length) : maxL (l.take (i + 1)) = max (maxL (l.take i)) (l.getD i 0) := by
  rw [take_getD l 0 i hi, maxL_snoc (by rw [List.length_take]; omega)]
theorem maxL_zero : ∀ n, maxL (List.replicate n 0) = 0
  | 0 => rfl
  | n + 1 => by
    rw [List.replicate_succ, maxL]
    induction n with
    | zero => rfl
    | succ n ih => rw [List.replicate_succ, List.foldl_cons]; exact ih
theorem maxL_one (l : List Int) : maxL (l.take 1) = l.getD 0 0 := by cases l <;> rfl
/-! ### The reference's masks -/
def adjT (es : List Arc) (v u : Nat) : Bool := es.any fun a => (decide (a.src = v) && decide (a.dst = u)) || (decide (a.dst = v) && decide (a.src = u))
theorem adj_cons (a : Arc) (es : List Arc) (v u : Nat) : adjT (a :: es) v u = (((decide (a.src = v) && decide (a.dst = u)) || (decide (a.dst = v) && decide (a.src = u))) || adjT es v u) := rfl
theorem adj_snoc (a : Arc) (es : List Arc) (v u : Nat) : adjT (es ++ [a]) v u = (adjT es v u || ((decide (a.src = v) && decide (a.dst = u)) || (decide (a.dst = v) && decide (a.src = u)))) := by
  unfold adjT; rw [List.any_append]; simp only [List.any_cons, List.any_nil, Bool.or_false]
theorem adj_symm (es : List Arc) (v u : Nat) : adjT es v u = adjT es u v := by
  induction es with
  | nil => rfl
  | cons a es ih => rw [adj_cons, adj_cons, ih, Bool.and_comm (decide (a.dst = (v : Int))), Bool.and_comm (decide (a.src = (v : Int))), Bool.or_comm (decide (a.dst = (u : Int)) && decide (a.src = (v : Int)))]
theorem adj_none {es : List Arc} {v : Nat} (h : degT es v = 0) (u : Nat) : adjT es v u = false := by
  unfold adjT
  rw [List.any_eq_false]
  intro a ha hc
  have h2 := List.countP_eq_zero.1 h a ha
  unfold touch at h2
  rw [Bool.or_eq_true, Bool.and_eq_true, Bool.and_eq_true] at hc
  rcases hc with ⟨q, _⟩ | ⟨q, _⟩
  · rw [q] at h2; exact h2 rfl
  · rw [q, Bool.or_true] at h2; exact h2 rfl
theorem adj_arcT {f k : Nat} (es : List Arc) (v u : Nat) : adjT (arcT f k :: es) v u = (((decide (v = f) && decide (u = k)) || (decide (v = k) && decide (u = f))) || adjT es v u) := by
  rw [adj_cons]
  congr 1
  unfold arcT
  show ((decide (min (f : Int) k = v) && decide (max (f : Int) k = u)) || (decide (max (f : Int) k = v) && decide (min (f : Int) k = u))) = _
  rw [Bool.eq_iff_iff]
  simp only [Bool.or_eq_true, Bool.and_eq_true, decide_eq_true_eq]
  omega
structure NearM (N : List Int) (es : List Arc) : Prop where
  len : N.length = 12
  rng : ∀ v : Nat, 0 ≤ N.getD v 0 ∧ N.getD v 0 ≤ 4095
  bit : ∀ v u : Nat, v < 12 → has (N.getD v 0) u = adjT es v u
theorem zero12 (v : Nat) : (List.replicate 12 (0 : Int)).getD v 0 = 0 := by
  by_cases q : v < 12
  · rw [getD_lt _ 0 v (by simpa using q), List.getElem_replicate]
  · exact getD_ge _ _ _ (by simp; omega)
theorem NearM.start : NearM [0, 0, 0, 0, 0, 0, 0, 0, 0, 0, 0, 0] [] where
  len := rfl
  rng := fun v => by
    have h : ([0, 0, 0, 0, 0, 0, 0, 0, 0, 0, 0, 0] : List Int).getD v 0 = 0 := zero12 v
    omega
  bit := fun v u hv => by
    have h : ([0, 0, 0, 0, 0, 0, 0, 0, 0, 0, 0, 0] : List Int).getD v 0 = 0 := zero12 v
    rw [h, has_zero]; rfl
theorem nm_ior {a b : Int} (ha : 0 ≤ a ∧ a ≤ 4095) (hb : 0 ≤ b ∧ b ≤ 4095) : 0 ≤ ior a b ∧ ior a b ≤ 4095 := by
  refine ⟨ior0 a b, ?_⟩
  have : ior a b < ((2 ^ 12 : Nat) : Int) := lt_has (ior0 a b) fun v hv => by
    rw [has_ior, has_lt (n := 12) ha.1 (by omega) hv, has_lt (n := 12) hb.1 (by omega) hv]; rfl
  omega
theorem nm_iandn {a b : Int} (ha : 0 ≤ a ∧ a ≤ 4095) : 0 ≤ iandn a b ∧ iandn a b ≤ 4095 := by
  refine ⟨iandn0 a b, ?_⟩
  have : iandn a b < ((2 ^ 12 : Nat) : Int) := lt_has (iandn0 a b) fun v hv => by
    rw [has_iandn, has_lt (n := 12) ha.1 (by omega) hv]; rfl
  omega
theorem nm_pow {k : Nat} (h : k < 12) : 0 ≤ (1 : Int) * 2 ^ k ∧ (1 : Int) * 2 ^ k ≤ 4095 := by
  have h2 : ∀ k : Nat, k < 12 → 0 ≤ (1 : Int) * 2 ^ k ∧ (1 : Int) * 2 ^ k ≤ 4095 := by decide
  exact h2 k h
theorem NearM.add {N : List Int} {es : List Arc} (h : NearM N es) {a : Arc} (h1 : 0 ≤ a.src) (h2 : a.src < a.dst) (h3 : a.dst < 12) :
    NearM ((N.set a.src.toNat (ior (N.getD a.src.toNat 0) (1 * 2 ^ a.dst.toNat))).set a.dst.toNat (ior ((N.set a.src.toNat (ior (N.getD a.src.toNat 0) (1 * 2 ^ a.dst.toNat))).getD a.dst.toNat 0) (1 * 2 ^ a.src.toNat))) (es ++ [a]) := by
  have hl := h.len
  have hat : ∀ v : Nat, ((N.set a.src.toNat (ior (N.getD a.src.toNat 0) (1 * 2 ^ a.dst.toNat))).set a.dst.toNat (ior ((N.set a.src.toNat (ior (N.getD a.src.toNat 0) (1 * 2 ^ a.dst.toNat))).getD a.dst.toNat 0) (1 * 2 ^ a.src.toNat))).getD v 0
      = if v = a.dst.toNat then ior (N.getD a.dst.toNat 0) (1 * 2 ^ a.src.toNat) else if v = a.src.toNat then ior (N.getD a.src.toNat 0) (1 * 2 ^ a.dst.toNat) else N.getD v 0 := fun v => by
    rw [getD_set_if _ _ _ _ (by rw [List.length_set]; omega), getD_set_if _ _ _ _ (by omega), getD_set_if _ _ _ _ (by omega), if_neg (show ¬ a.dst.toNat = a.src.toNat by omega)]
  refine ⟨by rw [List.length_set, List.length_set]; exact hl, fun v => ?_, fun v u hv => ?_⟩
  · rw [hat]
    split
    · exact nm_ior (h.rng _) (nm_pow (k := a.src.toNat) (by omega))
    · split
      · exact nm_ior (h.rng _) (nm_pow (k := a.dst.toNat) (by omega))
      · exact h.rng v
  · rw [hat, adj_snoc]
    split
    · rename_i e
      rw [has_ior, h.bit _ _ (by omega), has_pow, ← e]
      congr 1
      rw [Bool.eq_iff_iff]; simp only [Bool.or_eq_true, Bool.and_eq_true, decide_eq_true_eq]; omega
    · split
      · rename_i e
        rw [has_ior, h.bit _ _ (by omega), has_pow, ← e]
        congr 1
        rw [Bool.eq_iff_iff]; simp only [Bool.or_eq_true, Bool.and_eq_true, decide_eq_true_eq]; omega
      · rename_i e1 e2
        rw [h.bit _ _ hv]
        have : ((decide (a.src = (v : Int)) && decide (a.dst = (u : Int))) || (decide (a.dst = (v : Int)) && decide (a.src = (u : Int)))) = false := by
          rw [Bool.eq_false_iff]; simp only [ne_eq, Bool.or_eq_true, Bool.and_eq_true, decide_eq_true_eq]; omega
        rw [this, Bool.or_false]
/-! ### A mask of one bit -/
def one16 (s : Int) : Bool := decide (s ≠ 0) && decide (iand s (s - 1) = 0)
theorem one_all : (List.range 4096).all (fun s => (decide (s ≠ 0) && (s &&& (s - 1) == 0)) == ((List.range 12).countP (fun u => s.testBit u) == 1)) = true := by decide +kernel
theorem one_is {z : Int} (h : 0 ≤ z ∧ z ≤ 4095) : one16 z = ((List.range 12).countP (fun u => has z u) == 1) := by
  have h1 := List.all_eq_true.1 one_all z.toNat (List.mem_range.2 (by omega))
  rw [beq_iff_eq] at h1
  unfold has
  rw [← h1]
  unfold one16 iand
  rw [show (z - 1).toNat = z.toNat - 1 by omega]
  congr 1
  · rw [decide_eq_decide]; omega
  · rw [Bool.eq_iff_iff, beq_iff_eq, decide_eq_true_eq]; omega
def nbT (es : List Arc) (v : Nat) : Nat := (List.range 12).countP fun u => adjT es v u
theorem cnt_one {c : Nat} (h : c < 12) : (List.range 12).countP (fun u => decide (u = c)) = 1 := by
  have h2 : ∀ c : Nat, c < 12 → (List.range 12).countP (fun u => decide (u = c)) = 1 := by decide
  exact h2 c h
theorem countP_or {α : Type} {p q : α → Bool} : ∀ {l : List α}, (∀ x, p x = true → q x = false) → l.countP (fun x => p x || q x) = l.countP p + l.countP q
  | [], _ => rfl
  | a :: l, h => by
    rw [List.countP_cons, List.countP_cons, List.countP_cons, countP_or h]
    cases e : p a
    · simp; omega
    · rw [h a e]; simp; omega
theorem nb_congr {es : List Arc} {v : Nat} {p : Nat → Bool} (h : ∀ u, adjT es v u = p u) : nbT es v = (List.range 12).countP p := by
  unfold nbT; rw [funext h]
theorem dec_dead {n : Nat} {L r : List Int} (h : Lft n L r) {v : Nat} (hv : v < n) (hd : L.getD v 0 = -1) (u : Nat) : adjT (decT L r) v u = false := by
  have h1 := dec_deg h v hv
  exact adj_none (by omega) u
theorem dec_nb {n : Nat} (hn : n ≤ 12) : ∀ {r L : List Int}, Lft n L r → ∀ v : Nat, v < n → (nbT (decT L r) v : Int) = L.getD v 0 + 1
  | [], L, h, v, hv => by
    obtain ⟨a, b, ab, bn, ha, hb, hat⟩ := h.two
    have hlast : decT L [] = [arcT a b] := by
      rw [decT]; unfold lastT arcT; rw [ha, Int.toNat_natCast, hb, Int.min_eq_left (by omega), Int.max_eq_right (by omega)]
    have hadj : ∀ u, adjT (decT L []) v u = ((decide (v = a) && decide (u = b)) || (decide (v = b) && decide (u = a))) := fun u => by
      rw [hlast, adj_arcT]; exact Bool.or_false _
    rw [hat v hv]
    by_cases e1 : v = a
    · rw [nb_congr (p := fun u => decide (u = b)) fun u => by rw [hadj]; have : v ≠ b := by omega
                                                              simp [e1]; omega, cnt_one (by omega), if_pos (.inl e1)]; rfl
    · by_cases e2 : v = b
      · rw [nb_congr (p := fun u => decide (u = a)) fun u => by rw [hadj]; simp [e2]; omega, cnt_one (by omega), if_pos (.inr e2)]; rfl
      · rw [nb_congr (p := fun _ => false) fun u => by rw [hadj]; simp [e1, e2], List.countP_eq_zero.2 (by simp), if_neg (by omega)]; rfl
  | k :: r, L, h, v, hv => by
    obtain ⟨f, f1, f2, f3, f4, k0, k1, k2, hne⟩ := h.head
    obtain ⟨c, rfl⟩ : ∃ c : Nat, k = c := ⟨k.toNat, by omega⟩
    rw [Int.toNat_natCast] at k2
    have hcf : c ≠ f := by omega
    have hnx := h.next
    have hat := h.next_at f1 f2 k0 k1 hne
    have ih := dec_nb hn hnx
    have hdf : ∀ u, adjT (decT (nextL L c) r) f u = false := dec_dead hnx f2 (by rw [hat, if_pos rfl])
    have hadj : ∀ u, adjT (decT L (c :: r)) v u = (((decide (v = f) && decide (u = c)) || (decide (v = c) && decide (u = f))) || adjT (decT (nextL L c) r) v u) := fun u => by
      rw [decT, f1]; exact adj_arcT _ v u
    have hi := ih v hv
    rw [hat v] at hi
    by_cases e1 : v = f
    · subst e1
      rw [nb_congr (p := fun u => decide (u = c)) fun u => by rw [hadj, hdf, Bool.or_false]; simp; omega, cnt_one (by omega)]
      omega
    · rw [if_neg e1] at hi
      by_cases e2 : v = c
      · subst e2
        rw [if_pos (by omega)] at hi
        rw [nb_congr (p := fun u => decide (u = f) || adjT (decT (nextL L v) r) v u) fun u => by rw [hadj]; simp [e1], countP_or fun u hu => by rw [of_decide_eq_true hu, adj_symm]; exact hdf v, cnt_one (by omega)]
        have e : (List.range 12).countP (fun u => adjT (decT (nextL L v) r) v u) = nbT (decT (nextL L v) r) v := rfl
        rw [e]
        omega
      · rw [if_neg (by omega)] at hi
        rw [nb_congr (p := fun u => adjT (decT (nextL L c) r) v u) fun u => by rw [hadj]; simp [e1, e2]]
        exact hi
/-! ### A round of the reference -/
theorem code_round {n : Nat} (hn : n ≤ 12) {N L r : List Int} {k : Int} (h : Lft n L (k :: r)) (hN : NearM N (decT L (k :: r))) :
    ∃ f : Nat, fst0 L = f ∧ f < n ∧ idxOf one16 N = f ∧ 0 ≤ k ∧ k < n ∧ (f : Int) ≠ k ∧ N.getD f 0 = 1 * 2 ^ k.toNat ∧ (∀ j : Nat, N.getD f 0 = 1 * 2 ^ j → j = k.toNat) ∧
      NearM ((N.set k.toNat (iandn (N.getD k.toNat 0) (1 * 2 ^ f))).set f 0) (decT (nextL L k) r) := by
  obtain ⟨f, f1, f2, f3, f4, k0, k1, k2, hne⟩ := h.head
  obtain ⟨c, rfl⟩ : ∃ c : Nat, k = c := ⟨k.toNat, by omega⟩
  rw [Int.toNat_natCast] at k2
  rw [Int.toNat_natCast]
  have hcf : c ≠ f := by omega
  have hnx := h.next
  have hat := h.next_at f1 f2 k0 k1 hne
  have hl := hN.len
  have hdf : ∀ u, adjT (decT (nextL L c) r) f u = false := dec_dead hnx f2 (by rw [hat, if_pos rfl])
  have hadj : ∀ v u, adjT (decT L (c :: r)) v u = (((decide (v = f) && decide (u = c)) || (decide (v = c) && decide (u = f))) || adjT (decT (nextL L c) r) v u) := fun v u => by
    rw [decT, f1]; exact adj_arcT _ v u
  have hone : ∀ v : Nat, v < n → one16 (N.getD v 0) = (L.getD v 0 == 0) := fun v hv => by
    have h1 := dec_nb hn h v hv
    unfold nbT at h1
    rw [one_is (hN.rng v), show (fun u => has (N.getD v 0) u) = fun u => adjT (decT L (c :: r)) v u from funext fun u => hN.bit v u (by omega), Bool.eq_iff_iff, beq_iff_eq, beq_iff_eq]
    omega
  have hpow : N.getD f 0 = 1 * 2 ^ c := by
    refine side_ext (hN.rng f).1 (nm_pow (by omega)).1 fun u => ?_
    rw [hN.bit f u (by omega), hadj, hdf, has_pow, Bool.or_false, Bool.eq_iff_iff]
    simp only [Bool.or_eq_true, Bool.and_eq_true, decide_eq_true_eq, true_and]
    omega
  refine ⟨f, f1, f2, ?_, k0, k1, hne, hpow, fun j hj => ?_, ?_⟩
  · refine idxOf_at (d := 0) (fun j hj => ?_) (by omega) ?_
    · rw [hone j (by omega), beq_eq_false_iff_ne]; exact f4 j hj
    · rw [hone f f2, f3]; rfl
  · have h1 : has (1 * 2 ^ c) j = true := by rw [← hpow, hj, has_pow]; simp
    rw [has_pow] at h1
    exact (of_decide_eq_true h1).symm
  · have hg : ∀ v : Nat, ((N.set c (iandn (N.getD c 0) (1 * 2 ^ f))).set f 0).getD v 0 = if v = f then 0 else if v = c then iandn (N.getD c 0) (1 * 2 ^ f) else N.getD v 0 := fun v => by
      rw [getD_set_if _ _ _ _ (by rw [List.length_set]; omega), getD_set_if _ _ _ _ (by omega)]
    refine ⟨by rw [List.length_set, List.length_set]; exact hl, fun v => ?_, fun v u hv => ?_⟩
    · rw [hg]
      split
      · omega
      · split
        · exact nm_iandn (a := N.getD c 0) (hN.rng c)
        · exact hN.rng v
    · rw [hg]
      split
      · rename_i e; rw [e, has_zero, hdf]
      · rename_i e1
        split
        · rename_i e
          rw [has_iandn, hN.bit c u (by omega), hadj, has_pow, e]
          by_cases e3 : u = f
          · rw [e3, adj_symm, hdf]; simp [hcf]
          · simp [hcf, e3]; intro _; omega
        · rename_i e2
          rw [hN.bit v u hv, hadj]
          simp [e1, e2]
/-! ### Bounds -/
theorem occ_le {l : List Int} {v : Int} : occ l v ≤ l.length := by
  unfold occ; have := List.countP_le_length (p := fun x => decide (x = v)) (l := l); omega
theorem cntL_le {m v : Nat} {l : List Int} : 0 ≤ (cntL m l).getD v 0 ∧ (cntL m l).getD v 0 ≤ l.length := by
  refine ⟨cntL_pos, ?_⟩
  by_cases h : v < m
  · rw [cntL_at h]; exact occ_le
  · rw [getD_ge _ _ _ (by rw [cntL_len]; omega)]; omega
theorem cntL_nil {m : Nat} : cntL m [] = List.replicate m 0 := by
  refine list_ext 0 (by simp [cntL_len]) fun v hv => ?_
  rw [cntL_len] at hv
  rw [cntL_at hv, getD_lt _ 0 v (by simpa using hv), List.getElem_replicate]; rfl
theorem Lft.hi {n : Nat} {L r : List Int} (h : Lft n L r) {v : Nat} (hv : v < n) : L.getD v 0 ≤ r.length := by
  have := occ_le (l := r) (v := (v : Int))
  rcases h.at_ v hv with q | q <;> omega
theorem drop_cons {l : List Int} {i : Nat} (h : i < l.length) : l.drop i = l.getD i 0 :: l.drop (i + 1) := by
  rw [getD_lt _ 0 i h, List.drop_eq_getElem_cons h]
theorem fst0_none {l : List Int} (h : ∀ j, j < l.length → l.getD j 0 ≠ 0) : fst0 l = -1 :=
  idxOf_none (d := 0) fun j hj => decide_eq_false fun q => h j hj q.symm
theorem set_rng {N : List Int} (h : ∀ v : Nat, 0 ≤ N.getD v 0 ∧ N.getD v 0 ≤ 4095) {i : Nat} {x : Int} (hx : 0 ≤ x ∧ x ≤ 4095) (v : Nat) : 0 ≤ (N.set i x).getD v 0 ∧ (N.set i x).getD v 0 ≤ 4095 := by
  by_cases hi : i < N.length
  · rw [getD_set_if _ _ _ _ hi]; split
    · exact hx
    · exact h v
  · rw [List.set_eq_of_length_le (by omega)]; exact h v
theorem mem_rng {N : List Int} (h : ∀ v : Nat, 0 ≤ N.getD v 0 ∧ N.getD v 0 ≤ 4095) : ∀ x ∈ N, 0 ≤ x ∧ x ≤ 4095 := fun x hx => by
  obtain ⟨i, hi, rfl⟩ := List.mem_iff_getElem.1 hx
  have := h i
  rwa [getD_lt _ 0 i hi] at this
theorem filter_yes {es : List Arc} {i v : Nat} (hi : i < es.length) (h : touch (es.getD i default) v = true) : (es.take (i + 1)).filter (fun a => touch a v) = (es.take i).filter (fun a => touch a v) ++ [es.getD i default] := by
  rw [take_getD es default i hi, List.filter_append, List.filter_cons, if_pos h]; rfl
theorem filter_no {es : List Arc} {i v : Nat} (hi : i < es.length) (h : touch (es.getD i default) v = false) : (es.take (i + 1)).filter (fun a => touch a v) = (es.take i).filter (fun a => touch a v) := by
  rw [take_getD es default i hi, List.filter_append, List.filter_cons, if_neg (by rw [h]; decide)]; exact List.append_nil _
/-! ### The arcs stand as they are taken away -/
theorem dec_at {n : Nat} {L l : List Int} (h : Lft n L l) {i : Nat} (hi : i < l.length) :
    ∃ f : Nat, (f : Int) < (n : Int) ∧ degT ((decT L l).drop i) f = 1 ∧ (∀ j : Nat, j < f → degT ((decT L l).drop i) j ≠ 1) ∧ ((decT L l).drop i).filter (fun a => touch a f) = [(decT L l).getD i default] := by
  obtain ⟨L', h1, h2⟩ := dec_drop (r := l) (L := L) (j := i) (by omega)
  have h3 := h2 n h
  have hd := drop_cons hi
  have hg : (decT L l).getD i default = ((decT L l).drop i).getD 0 default := by
    rw [List.getD_eq_getElem?_getD, List.getD_eq_getElem?_getD, List.getElem?_drop, Nat.add_zero]
  rw [hg]
  rw [hd] at h1 h3
  obtain ⟨f, f1, f2, f3, f4, f5⟩ := dec_leaf h3
  rw [h1]
  refine ⟨f, by omega, f3, f4, ?_⟩
  rw [f5, decT, f1]; rfl
end Go.Ab
