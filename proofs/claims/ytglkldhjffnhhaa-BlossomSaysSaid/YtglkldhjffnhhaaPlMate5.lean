/- Of pairs of any who go together, taken one by one: the plain laws. -/
import Derived.Test.YtglkldhjffnhhaaPlMate4
namespace Go.Ab
def pairZ (a : Arc) : Int := ior (1 * 2 ^ a.src.toNat) (1 * 2 ^ a.dst.toNat)
def usedZ (es : List Arc) (l : List Int) : Int := l.foldl (fun z k => ior z (pairZ (es.getD k.toNat default))) 0
theorem used_snoc (es : List Arc) (l : List Int) (k : Int) : usedZ es (l ++ [k]) = ior (usedZ es l) (pairZ (es.getD k.toNat default)) := by
  unfold usedZ; rw [List.foldl_append]; rfl
theorem has_pair {a : Arc} {v : Nat} : has (pairZ a) v = (decide (a.src.toNat = v) || decide (a.dst.toNat = v)) := by unfold pairZ; rw [has_ior, has_pow, has_pow]
theorem used0 (es : List Arc) (l : List Int) : 0 ≤ usedZ es l := by
  rcases List.eq_nil_or_concat l with rfl | ⟨r, k, rfl⟩
  · exact Int.le_refl _
  · rw [List.concat_eq_append, used_snoc]; exact ior0 _ _
theorem pair_none {z : Int} {a : Arc} (h1 : has z a.src.toNat = false) (h2 : has z a.dst.toNat = false) : iand z (pairZ a) = 0 :=
  side_ext (iand0 _ _) (Int.le_refl _) fun v => by
    rw [has_iand, has_pair, has_zero]
    by_cases q1 : a.src.toNat = v
    · subst q1; rw [h1]; rfl
    · by_cases q2 : a.dst.toNat = v
      · subst q2; rw [h2]; rfl
      · rw [decide_eq_false q1, decide_eq_false q2]; simp
structure OkAt (es : List Arc) (l : List Int) (i : Nat) : Prop where
  lo : 0 ≤ l.getD i 0
  hi : l.getD i 0 < es.length
  up : 0 < i → l.getD (i - 1) 0 < l.getD i 0
  ne : (es.getD (l.getD i 0).toNat default).src ≠ (es.getD (l.getD i 0).toNat default).dst
  apart : iand (usedZ es (l.take i)) (pairZ (es.getD (l.getD i 0).toNat default)) = 0
structure MateOk (n : Int) (es : List Arc) (l : List Int) : Prop where
  len : (l.length : Int) = nuF n es 0
  ok : ∀ i, i < l.length → OkAt es l i
structure Grd (n : Int) (es : List Arc) (k : Nat) (z : Int) (out : List Int) : Prop where
  z0 : 0 ≤ z
  z1 : z < ((2 ^ n.toNat : Nat) : Int)
  nu_ : nuZ es z + out.length = nuF n es 0
  in_ : ∀ x ∈ out, 0 ≤ x ∧ x < k
  ok : ∀ i, i < out.length → OkAt es out i
  used : ∀ v, v < n.toNat → has z v = !has (usedZ es out) v
  no : ∀ j, j < k → inP (has z) (prOf (es.getD j default)) → nu (prsOf es) (has z) ≠ 1 + nu (prsOf es) (cutP (has z) (prOf (es.getD j default)))
theorem Grd.start (n : Int) (es : List Arc) : Grd n es 0 ((1 : Int) * 2 ^ n.toNat - 1) [] := by
  have h1 : (1 : Int) * 2 ^ n.toNat = ((2 ^ n.toNat : Nat) : Int) := by rw [Int.one_mul, pow_nat]
  have h2 : 1 ≤ 2 ^ n.toNat := Nat.one_le_two_pow
  exact ⟨by omega, by omega, by rw [nuF_full]; simp, fun x hx => (by cases hx), fun i hi => (by cases hi), fun v hv => by
    rw [has_mask, decide_eq_true hv]
    show true = !has 0 v
    rw [has_zero]; rfl, fun j hj => by omega⟩
theorem Grd.len {n : Int} {es : List Arc} {k : Nat} {z : Int} {out : List Int} (h : Grd n es k z out) (h0 : 0 ≤ n) : 2 * out.length ≤ n.toNat := by
  have h1 := nuF_in (es := es) (n := n) 0 h0
  have h2 := nuZ_in (es := es) (n := n.toNat) h.z0 h.z1
  have h3 := h.nu_
  omega
theorem Grd.skip {n : Int} {es : List Arc} {k : Nat} {z : Int} {out : List Int} (h : Grd n es k z out)
    (hn : inP (has z) (prOf (es.getD k default)) → nuZ es z ≠ 1 + nuZ es (iandn z (pairZ (es.getD k default)))) : Grd n es (k + 1) z out :=
  ⟨h.z0, h.z1, h.nu_, fun x hx => by have := h.in_ x hx; omega, h.ok, h.used, fun j hj a => by
    by_cases q : j = k
    · subst q
      have := hn a
      unfold nuZ pairZ at this
      rw [has_cut] at this
      intro w
      exact this (by unfold prOf at w; omega)
    · exact h.no j (by omega) a⟩
theorem Grd.take {n : Int} {es : List Arc} {k : Nat} {z : Int} {out : List Int} (h : Grd n es k z out) (hk : k < es.length) (hA : InR n es)
    (hs : (es.getD k default).src ≠ (es.getD k default).dst) (h1 : has z (es.getD k default).src.toNat = true) (h2 : has z (es.getD k default).dst.toNat = true) (he : nuZ es z = 1 + nuZ es (iandn z (pairZ (es.getD k default)))) :
    Grd n es (k + 1) (iandn z (pairZ (es.getD k default))) (out ++ [(k : Int)]) := by
  obtain ⟨b1, b2, b3, b4⟩ := hA _ (getD_mem (d := default) hk)
  have hcut : has (iandn z (pairZ (es.getD k default))) = cutP (has z) (prOf (es.getD k default)) := has_cut
  have hin : inP (has z) (prOf (es.getD k default)) := ⟨by show (es.getD k default).src.toNat ≠ (es.getD k default).dst.toNat; omega, h1, h2⟩
  have hlt := iandn_lt (z := z) (y := pairZ (es.getD k default)) h.z0 h1 (by rw [has_pair]; simp)
  have hu1 := h.used (es.getD k default).src.toNat (by omega)
  have hu2 := h.used (es.getD k default).dst.toNat (by omega)
  rw [h1] at hu1
  rw [h2] at hu2
  refine ⟨iandn0 _ _, by have := h.z1; omega, ?_, fun x hx => ?_, fun i hi => ?_, fun v hv => ?_, fun j hj a => ?_⟩
  · rw [List.length_append, List.length_singleton]
    have := h.nu_
    omega
  · rcases List.mem_append.1 hx with q | q
    · have := h.in_ x q; omega
    · rw [List.mem_singleton] at q; omega
  · rw [List.length_append, List.length_singleton] at hi
    by_cases q : i < out.length
    · have q1 := h.ok i q
      have e1 : (out ++ [(k : Int)]).getD i 0 = out.getD i 0 := getD_app_l _ _ _ _ q
      have e2 : (out ++ [(k : Int)]).getD (i - 1) 0 = out.getD (i - 1) 0 := getD_app_l _ _ _ _ (by omega)
      have e3 : (out ++ [(k : Int)]).take i = out.take i := by rw [List.take_append_of_le_length (by omega)]
      exact ⟨by rw [e1]; exact q1.lo, by rw [e1]; exact q1.hi, by rw [e1, e2]; exact q1.up, by rw [e1]; exact q1.ne, by rw [e1, e3]; exact q1.apart⟩
    · obtain rfl : i = out.length := by omega
      have e1 : (out ++ [(k : Int)]).getD out.length 0 = k := by rw [List.getD_eq_getElem?_getD]; simp
      have e3 : (out ++ [(k : Int)]).take out.length = out := by rw [List.take_append_of_le_length (Nat.le_refl _), List.take_length]
      refine ⟨by rw [e1]; omega, by rw [e1]; omega, fun q2 => ?_, by rw [e1, Int.toNat_natCast]; exact hs, ?_⟩
      · rw [e1, getD_app_l _ _ _ _ (by omega)]
        exact (h.in_ _ (getD_mem (d := 0) (by omega))).2
      · rw [e1, e3, Int.toNat_natCast]
        exact pair_none (by simpa using hu1.symm) (by simpa using hu2.symm)
  · rw [has_iandn, used_snoc, has_ior, Int.toNat_natCast, h.used v hv]
    cases has (usedZ es out) v <;> rfl
  · rw [hcut] at a ⊢
    by_cases q : j = k
    · subst q
      exact absurd rfl (cutP_iff.1 a.2.1).2.1
    · have a' : inP (has z) (prOf (es.getD j default)) := ⟨a.1, (cutP_iff.1 a.2.1).1, (cutP_iff.1 a.2.2).1⟩
      refine nu_keep (prs_mem (getD_mem (d := default) hk)) ?_ hin ?_ a (h.no j (by omega) a')
      · exact prs_mem (getD_mem (d := default) (by omega))
      · unfold nuZ at he
        rw [hcut] at he
        omega
theorem Grd.end_ {n : Int} {es : List Arc} {k : Nat} {z : Int} {out : List Int} (h : Grd n es k z out) (hk : es.length ≤ k) : MateOk n es out := by
  have h0 : nuZ es z = 0 := by
    unfold nuZ
    rw [nu_none fun e he hi => by
      obtain ⟨a, ha, rfl⟩ := List.mem_map.1 he
      obtain ⟨j, hj, rfl⟩ := List.getElem_of_mem ha
      have := h.no j (by omega)
      rw [getD_lt es default j hj] at this
      exact this hi]
    rfl
  have := h.nu_
  exact ⟨by omega, h.ok⟩
theorem take_snocM {l : List Int} {j : Nat} (h : j < l.length) : l.take (j + 1) = l.take j ++ [l.getD j 0] := by
  rw [List.take_add_one, getD_lt l 0 j h, List.getElem?_eq_getElem h]; rfl
theorem used_in {n : Int} {es : List Arc} (hA : InR n es) (h9 : n ≤ 9) {l : List Int} (hl : ∀ i, i < l.length → OkAt es l i) : ∀ i, i ≤ l.length → 0 ≤ usedZ es (l.take i) ∧ usedZ es (l.take i) ≤ 511 := by
  intro i hi
  refine ⟨used0 _ _, ?_⟩
  have : usedZ es (l.take i) < ((2 ^ 9 : Nat) : Int) := by
    refine lt_has (used0 _ _) fun v hv => ?_
    induction i with
    | zero => exact has_zero v
    | succ i ih =>
      rw [take_snocM (j := i) (by omega), used_snoc, has_ior, ih (by omega)]
      have hk := hl i (by omega)
      have h1 := hk.lo
      have h2 := hk.hi
      obtain ⟨b1, b2, b3, b4⟩ := hA _ (getD_mem (xs := es) (d := default) (i := (l.getD i 0).toNat) (by omega))
      rw [has_pair, decide_eq_false (by omega), decide_eq_false (by omega)]; rfl
  omega
theorem ones9_all : (List.range 512).all (fun z => z == 0 || many (iand ((z : Nat) : Int) (((z : Nat) : Int) - 1)) 9 + 1 == many ((z : Nat) : Int) 9) = true := by decide +kernel
theorem ones9_step {z : Int} (h0 : 0 < z) (h1 : z < 512) : many (iand z (z - 1)) 9 + 1 = many z 9 := by
  have h := List.all_eq_true.1 ones9_all z.toNat (List.mem_range.2 (by omega))
  rw [Bool.or_eq_true, beq_iff_eq, beq_iff_eq, Int.toNat_of_nonneg (by omega)] at h
  rcases h with h | h
  · omega
  · exact h
theorem ones9_zero : many 0 9 = 0 := by decide +kernel
theorem iand_le9 {a b : Int} (hb : 0 ≤ b) : iand a b ≤ b := by
  unfold iand
  have := Nat.and_le_right (n := a.toNat) (m := b.toNat)
  omega
theorem iandn_le9 {a b : Int} (ha : 0 ≤ a) : iandn a b ≤ a := by
  unfold iandn
  have h1 : (a.toNat ^^^ (a.toNat &&& b.toNat)) = a.toNat &&& (a.toNat ^^^ (a.toNat &&& b.toNat)) := by
    apply Nat.eq_of_testBit_eq
    intro i
    rw [Nat.testBit_and, Nat.testBit_xor, Nat.testBit_and]
    cases a.toNat.testBit i <;> cases b.toNat.testBit i <;> rfl
  have h2 : (a.toNat ^^^ (a.toNat &&& b.toNat)) ≤ a.toNat := by rw [h1]; exact Nat.and_le_left
  omega
end Go.Ab
