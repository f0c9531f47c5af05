/- Of rounds that must take something: what the walks need: the plain laws. -/
import Derived.Test.YtdglhalkilneaaaPlNeed
namespace Go.Ab
theorem comes_step {n : Int} {l : List Nd} {m : List Int} {i : Nat} (hml : m.length = n.toNat) (a1 : 0 ≤ (l.getD i default).src) (a2 : (l.getD i default).src < n) (a3 : 0 ≤ (l.getD i default).dst) (a4 : (l.getD i default).dst < n) (ci : i < l.length)
    (hmg : ∀ j, j < n.toNat → m.getD j 0 = comeOf (l.take i) (j : Int)) (j : Nat) (hj : j < n.toNat) :
    ((m.set (l.getD i default).dst.toNat (m.getD (l.getD i default).dst.toNat 0 + (l.getD i default).low)).set (l.getD i default).src.toNat
      ((m.set (l.getD i default).dst.toNat (m.getD (l.getD i default).dst.toNat 0 + (l.getD i default).low)).getD (l.getD i default).src.toNat 0 - (l.getD i default).low)).getD j 0 = comeOf (l.take (i + 1)) (j : Int) := by
  have h0 := hmg j hj
  rw [take_getD l default i ci, comeOf_snoc, ← h0, set2_get _ _ _ _ _ _ (by omega) (by omega), set1_get _ _ _ _ (by omega)]
  generalize (l.getD i default).src = a at *
  generalize (l.getD i default).dst = b at *
  generalize (l.getD i default).low = x at *
  by_cases e1 : j = a.toNat
  · rw [if_pos e1, if_pos (show a = (j : Int) by omega)]
    by_cases e2 : a.toNat = b.toNat
    · rw [if_pos e2, if_pos (show b = (j : Int) by omega), show b.toNat = j by omega]; omega
    · rw [if_neg e2, if_neg (show ¬ b = (j : Int) by omega), ← e1]; omega
  · rw [if_neg e1, if_neg (show ¬ a = (j : Int) by omega)]
    by_cases e2 : j = b.toNat
    · rw [if_pos e2, if_pos (show b = (j : Int) by omega), ← e2]; omega
    · rw [if_neg e2, if_neg (show ¬ b = (j : Int) by omega)]; omega
theorem comes_bound {n : Int} {m : List Int} {i : Nat} {a b x : Int} (hml : m.length = n.toNat) (a1 : 0 ≤ a) (a2 : a < n) (a3 : 0 ≤ b) (a4 : b < n) (x0 : 0 ≤ x) (x1 : x ≤ 333) (hb : ∀ k, -(333 * (i : Int)) ≤ m.getD k 0 ∧ m.getD k 0 ≤ 333 * (i : Int)) (k : Nat) :
    -(333 * ((i + 1 : Nat) : Int)) ≤ ((m.set b.toNat (m.getD b.toNat 0 + x)).set a.toNat ((m.set b.toNat (m.getD b.toNat 0 + x)).getD a.toNat 0 - x)).getD k 0 ∧
    ((m.set b.toNat (m.getD b.toNat 0 + x)).set a.toNat ((m.set b.toNat (m.getD b.toNat 0 + x)).getD a.toNat 0 - x)).getD k 0 ≤ 333 * ((i + 1 : Nat) : Int) := by
  rw [set2_get _ _ _ _ _ _ (by omega) (by omega), set1_get _ _ _ _ (by omega)]
  have h1 := hb k
  have h2 := hb a.toNat
  have h3 := hb b.toNat
  split
  · split <;> omega
  · split <;> omega
def needOut (l : List Nd) (f : List Int) : List Int := (List.range l.length).map fun k => (l.getD k default).low + f.getD k 0
theorem needOut_len (l : List Nd) (f : List Int) : (needOut l f).length = l.length := by simp [needOut]
theorem need_out_set {l : List Nd} {f : List Int} {i : Nat} (h : i < l.length) : ((needOut l f).take i ++ List.replicate (l.length - i) 0).set i ((l.getD i default).low + f.getD i 0) = (needOut l f).take (i + 1) ++ List.replicate (l.length - (i + 1)) 0 := by
  have := fill_set (fun k => (l.getD k default).low + f.getD k 0) (List.range l.length) 0 i (by simpa using h) (0 : Int)
  rw [List.length_range] at this
  have hg : (List.range l.length).getD i 0 = i := by rw [List.getD_eq_getElem?_getD, List.getElem?_range h]; rfl
  rw [hg] at this
  unfold needOut
  rw [← List.map_take, ← List.map_take]
  exact this
theorem needOut_get {l : List Nd} {f : List Int} {i : Nat} (h : i < l.length) : (needOut l f).getD i 0 = (l.getD i default).low + f.getD i 0 := by
  unfold needOut
  rw [List.getD_eq_getElem?_getD, List.getElem?_map, List.getElem?_range h]; rfl
theorem needOut_cons (a : Nd) (r : List Nd) (x : Int) (q : List Int) : needOut (a :: r) (x :: q) = (a.low + x) :: needOut r q := by
  unfold needOut
  rw [List.length_cons, List.range_succ_eq_map, List.map_cons, List.map_map]
  rfl
theorem gone_needOut (v : Int) : ∀ {l : List Nd} {f : List Int}, l.length ≤ f.length → gone (l.map needA) (needOut l f) v = gone (l.map needA) f v - comeOf l v
  | [], f, _ => by simp [gone, comeOf]
  | a :: r, [], h => by simp at h
  | a :: r, x :: q, h => by
    have ih := gone_needOut v (l := r) (f := q) (by simpa using h)
    rw [needOut_cons]
    simp only [List.map_cons, gone, comeOf, ih, needA]
    split <;> split <;> omega
def roundErr (n : Int) (l : List Nd) : Int := if needErr n l ≠ 0 then needErr n l else if (parted (n + 2) n (n + 1) (needNet n l)).1 < allOf (comes n l) then 5 else 0
/-- As much comes to each node as goes from it, within the bounds. -/
structure RoundIs (n : Int) (l : List Nd) (o : List Int) : Prop where
  len : o.length = l.length
  at_ : ∀ k, k < l.length → (l.getD k default).low ≤ o.getD k 0 ∧ o.getD k 0 ≤ (l.getD k default).cap
  kept : ∀ v : Nat, v < n.toNat → gone (l.map needA) o (v : Int) = 0
def RoundOk (n : Int) (l : List Nd) (o : List Int) : Prop := (roundErr n l ≠ 0 ∧ o = []) ∨ (roundErr n l = 0 ∧ RoundIs n l o)
theorem needNet_get {n : Int} {l : List Nd} {i : Nat} (h : i < l.length) : (needNet n l).getD i default = needA (l.getD i default) := by
  unfold needNet
  rw [List.getD_eq_getElem?_getD, List.getElem?_append_left (by simpa using h), List.getElem?_map, getD_lt l default i h, List.getElem?_eq_getElem h]; rfl
theorem need_flow {n : Int} {l : List Nd} {f : List Int} (h : FlOk (n + 2) n (n + 1) (needNet n l) f) {i : Nat} (hi : i < l.length) : 0 ≤ f.getD i 0 ∧ f.getD i 0 ≤ (l.getD i default).cap - (l.getD i default).low := by
  have := h.fin.at_ i (by unfold needNet; simp; omega)
  rw [needNet_get hi] at this
  exact this
theorem need_all {n : Int} {l : List Nd} (h : NeOk n l) : outOf (1 * 2 ^ n.toNat - 1) l = 0 ∧ intoOf (1 * 2 ^ n.toNat - 1) l = 0 := by
  have h0 : (0 : Int) ≤ 1 * 2 ^ n.toNat - 1 := by have := pw1 n.toNat; omega
  have key : ∀ r : List Nd, (∀ a ∈ r, NdOk n a) → outOf (1 * 2 ^ n.toNat - 1) r = 0 ∧ intoOf (1 * 2 ^ n.toNat - 1) r = 0 := by
    intro r
    induction r with
    | nil => intro _; exact ⟨rfl, rfl⟩
    | cons x q ih =>
      intro hr
      obtain ⟨h1, h2, h3, h4, _, _, _⟩ := hr x List.mem_cons_self
      have := ih (fun y hy => hr y (List.mem_cons_of_mem _ hy))
      have b1 : bit (1 * 2 ^ n.toNat - 1) x.src = 1 := by rw [bit_yes h0, has_mask]; simp; omega
      have b2 : bit (1 * 2 ^ n.toNat - 1) x.dst = 1 := by rw [bit_yes h0, has_mask]; simp; omega
      simp only [outOf, intoOf, b1, b2, this.1, this.2]
      simp
  exact key l h.arc
/-- The arcs of the source and of the sink are full. -/
theorem need_full {n : Int} {l : List Nd} {f : List Int} (h : NeOk n l) (hf : FlOk (n + 2) n (n + 1) (needNet n l) f) (hv : gone (needNet n l) f n = allOf (comes n l)) :
    ∀ j, j < (gainAs n 0 (comes n l)).length → (f.drop l.length).getD j 0 = ((gainAs n 0 (comes n l)).getD j default).cap := by
  intro j hj
  have h1 := h.n1
  have hp0 : (0 : Int) < ((2 ^ n.toNat : Nat) : Int) := by have := Nat.pow_pos (n := n.toNat) (a := 2) (by decide); omega
  obtain ⟨p1, c1⟩ := need_side h (z := 0) (by omega) hp0
  rw [(need_zero l).1, (need_zero l).2] at c1
  have hm1 : (1 * 2 ^ n.toNat - 1 : Int) < ((2 ^ n.toNat : Nat) : Int) := by rw [Int.one_mul, pow_nat]; omega
  obtain ⟨p2, c2⟩ := need_side h (z := 1 * 2 ^ n.toNat - 1) (by have := pw1 n.toNat; omega) hm1
  rw [(need_all h).1, (need_all h).2] at c2
  have s1 := side_shut p1.1 hf.fin (by rw [side_value hf p1, hv, c1]; omega)
  have s2 := side_shut p2.1 hf.fin (by rw [side_value hf p2, hv, c2]; omega)
  have hlen : l.length + j < (needNet n l).length := by unfold needNet; simp; omega
  have hget : (needNet n l).getD (l.length + j) default = (gainAs n 0 (comes n l)).getD j default := by
    unfold needNet
    rw [List.getD_eq_getElem?_getD, List.getElem?_append_right (by simp), List.getD_eq_getElem?_getD]
    simp
  have t1 := s1 _ hlen
  have t2 := s2 _ hlen
  rw [hget] at t1 t2
  have hd : (f.drop l.length).getD j 0 = f.getD (l.length + j) 0 := by
    rw [List.getD_eq_getElem?_getD, List.getElem?_drop, List.getD_eq_getElem?_getD]
  rw [hd]
  obtain ⟨k, hk, ha⟩ := mem_gainAs (getD_mem (d := (default : Arc)) hj)
  rw [comes_len] at hk
  generalize (gainAs n 0 (comes n l)).getD j default = a at *
  unfold gainA at ha
  split at ha
  · rw [List.mem_singleton] at ha
    subst ha
    refine t1.1 p1.2.2.1 ?_
    rw [bit_no p1.1, has_ior, has_zero, has_pow]; simp; omega
  · split at ha
    · rw [List.mem_singleton] at ha
      subst ha
      refine t2.1 ?_ p2.2.2.2
      rw [bit_yes p2.1, has_ior, has_mask]; simp; omega
    · cases ha
theorem need_round_ok {n : Int} {l : List Nd} {f : List Int} (h : NeOk n l) (hf : FlOk (n + 2) n (n + 1) (needNet n l) f) (hv : gone (needNet n l) f n = allOf (comes n l)) : RoundIs n l (needOut l f) := by
  have hlen := hf.fin.len
  have hnl : (needNet n l).length = l.length + (gainAs n 0 (comes n l)).length := by unfold needNet; simp
  refine ⟨needOut_len l f, fun k hk => ?_, fun v hv2 => ?_⟩
  · have := need_flow hf hk
    rw [needOut_get hk]; omega
  · have hk := hf.kept v (by omega) (by omega)
    have hsplit : gone (needNet n l) f (v : Int) = gone (l.map needA) (f.take l.length) v + gone (gainAs n 0 (comes n l)) (f.drop l.length) v := by
      rw [← gone_append (v : Int) (by simp; omega), List.take_append_drop]; rfl
    have hg := gone_gainAs (n := n) (v := (v : Int)) (by omega) (l := comes n l) (k := 0) (f := f.drop l.length) (by simp; omega) (need_full h hf hv) (by omega) (by rw [comes_len]; omega)
    rw [comes_len, if_pos (by omega), show ((v : Int) - 0).toNat = v by omega, comes_get hv2] at hg
    have htake : gone (l.map needA) (f.take l.length) (v : Int) = gone (l.map needA) f v := by
      have key : ∀ (xs : List Arc) (g : List Int), gone xs (g.take xs.length) (v : Int) = gone xs g v := by
        intro xs
        induction xs with
        | nil => intro g; simp [gone]
        | cons a r ih =>
          intro g
          cases g with
          | nil => simp
          | cons x q => simp only [List.length_cons, List.take_succ_cons, gone, ih]
      have := key (l.map needA) f
      rwa [List.length_map] at this
    rw [gone_needOut (v : Int) (by omega)]
    omega
/-- One arc's part is carried over. -/
theorem more_step {l : List Nd} {f m : List Int} {n : Int} {i : Nat} (hm : m.length = n.toNat) (hlen : f.length = l.length) (hi : i < l.length)
    (a1 : 0 ≤ (l.getD i default).src) (a2 : (l.getD i default).src < n) (a3 : 0 ≤ (l.getD i default).dst) (a4 : (l.getD i default).dst < n)
    (hg : ∀ k, k < n.toNat → m.getD k 0 = gone ((l.drop i).map needA) (f.drop i) (k : Int) - gone (l.map needA) f (k : Int)) (k : Nat) (hk : k < n.toNat) :
    ((m.set (l.getD i default).src.toNat (m.getD (l.getD i default).src.toNat 0 - f.getD i 0)).set (l.getD i default).dst.toNat
      ((m.set (l.getD i default).src.toNat (m.getD (l.getD i default).src.toNat 0 - f.getD i 0)).getD (l.getD i default).dst.toNat 0 + f.getD i 0)).getD k 0 = gone ((l.drop (i + 1)).map needA) (f.drop (i + 1)) (k : Int) - gone (l.map needA) f (k : Int) := by
  have h0 := hg k hk
  rw [drop_getD l default i hi, drop_getD f 0 i (by omega)] at h0
  simp only [List.map_cons, gone, needA] at h0
  rw [set2_get _ _ _ _ _ _ (by omega) (by omega), set1_get _ _ _ _ (by omega)]
  generalize hs : (l.getD i default).src = a at *
  generalize hd : (l.getD i default).dst = b at *
  by_cases e1 : k = b.toNat
  · rw [if_pos e1]
    rw [if_pos (show b = (k : Int) by omega)] at h0
    by_cases e2 : b.toNat = a.toNat
    · rw [if_pos e2]
      rw [if_pos (show a = (k : Int) by omega)] at h0
      rw [show a.toNat = k by omega]
      omega
    · rw [if_neg e2]
      rw [if_neg (show ¬ a = (k : Int) by omega)] at h0
      rw [show b.toNat = k by omega]
      omega
  · rw [if_neg e1]
    rw [if_neg (show ¬ b = (k : Int) by omega)] at h0
    by_cases e2 : k = a.toNat
    · rw [if_pos e2]
      rw [if_pos (show a = (k : Int) by omega)] at h0
      rw [show a.toNat = k by omega]
      omega
    · rw [if_neg e2]
      rw [if_neg (show ¬ a = (k : Int) by omega)] at h0
      omega
theorem more_bound {n : Int} {m : List Int} {i : Nat} {x a b : Int} (hm : m.length = n.toNat) (a1 : 0 ≤ a) (a2 : a < n) (a3 : 0 ≤ b) (a4 : b < n) (x0 : 0 ≤ x) (x1 : x ≤ 333) (hb : ∀ k, -(333 * (i : Int)) ≤ m.getD k 0 ∧ m.getD k 0 ≤ 333 * (i : Int)) (k : Nat) :
    -(333 * ((i + 1 : Nat) : Int)) ≤ ((m.set a.toNat (m.getD a.toNat 0 - x)).set b.toNat ((m.set a.toNat (m.getD a.toNat 0 - x)).getD b.toNat 0 + x)).getD k 0 ∧
    ((m.set a.toNat (m.getD a.toNat 0 - x)).set b.toNat ((m.set a.toNat (m.getD a.toNat 0 - x)).getD b.toNat 0 + x)).getD k 0 ≤ 333 * ((i + 1 : Nat) : Int) := by
  rw [set2_get _ _ _ _ _ _ (by omega) (by omega), set1_get _ _ _ _ (by omega)]
  have h1 := hb k
  have h2 := hb a.toNat
  have h3 := hb b.toNat
  split
  · split <;> omega
  · split <;> omega
/-- Eased: no set strains. -/
def eased (n : Int) (l : List Nd) : Bool := !((List.range (2 ^ n.toNat)).any fun k => strains (k : Int) l)
theorem eased_iff {n : Int} {l : List Nd} : eased n l = true ↔ ∀ k : Nat, k < 2 ^ n.toNat → strains k l = false := by
  unfold eased
  rw [Bool.not_eq_true', Bool.eq_false_iff, Ne, List.any_eq_true]
  constructor
  · intro h k hk
    rw [Bool.eq_false_iff]
    exact fun hs => h ⟨k, List.mem_range.2 hk, hs⟩
  · rintro h ⟨k, hk, hs⟩
    rw [h k (List.mem_range.1 hk)] at hs; cases hs
def faultErr (n : Int) (l : List Nd) : Int := if needErr n l ≠ 0 then needErr n l else if (parted (n + 2) n (n + 1) (needNet n l)).1 = allOf (comes n l) then 5 else 0
def faultSet (n : Int) (l : List Nd) : Int := okI (faultErr n l) (iand (parted (n + 2) n (n + 1) (needNet n l)).2.1 (1 * 2 ^ n.toNat - 1))
theorem need_eased {n : Int} {l : List Nd} (h : NeOk n l) (hE : needErr n l = 0) (he : eased n l = true) : roundErr n l = 0 ∧ faultErr n l = 5 := by
  have hv := (need_value h).2.2 (eased_iff.1 he)
  unfold roundErr faultErr
  rw [if_neg (by omega), if_neg (by omega), if_neg (by omega), if_pos hv]
  exact ⟨rfl, rfl⟩
theorem need_tight {n : Int} {l : List Nd} (h : NeOk n l) (hE : needErr n l = 0) (he : eased n l = false) : roundErr n l = 5 ∧ faultErr n l = 0 ∧ 0 ≤ faultSet n l ∧ faultSet n l < 1 * 2 ^ n.toNat ∧ strains (faultSet n l) l = true := by
  have hne : (parted (n + 2) n (n + 1) (needNet n l)).1 ≠ allOf (comes n l) := fun hv => by
    rw [eased_iff.2 ((need_value h).2.1 hv)] at he; cases he
  have hle := (need_value h).1
  have hf0 : faultErr n l = 0 := by unfold faultErr; rw [if_neg (by omega), if_neg hne]
  obtain ⟨f0, f1, f2⟩ := need_fault h (MinCut.low h.net).1 hne
  have hs : faultSet n l = iand (parted (n + 2) n (n + 1) (needNet n l)).2.1 (1 * 2 ^ n.toNat - 1) := okI_ok _ hf0
  rw [hs]
  refine ⟨?_, hf0, f0, Int.lt_of_lt_of_le f1 (Int.le_of_eq (by rw [Int.one_mul, pow_nat])), f2⟩
  unfold roundErr
  rw [if_neg (by omega), if_pos (by omega)]
theorem intoOf_in {n : Int} {z : Int} : ∀ {l : List Nd}, (∀ a ∈ l, NdOk n a) → 0 ≤ intoOf z l ∧ intoOf z l ≤ 333 * (l.length : Int) ∧ 0 ≤ outOf z l ∧ outOf z l ≤ 333 * (l.length : Int)
  | [], _ => by simp [intoOf, outOf]
  | a :: r, h => by
    have h1 := intoOf_in (z := z) (l := r) (fun b hb => h b (List.mem_cons_of_mem _ hb))
    obtain ⟨_, _, _, _, h2, h3, h4⟩ := h a List.mem_cons_self
    simp only [intoOf, outOf, List.length_cons]
    split <;> split <;> omega
end Go.Ab
