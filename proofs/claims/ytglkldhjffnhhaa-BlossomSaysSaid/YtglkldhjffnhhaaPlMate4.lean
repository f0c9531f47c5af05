/- Of pairs of any who go together, what the code keeps: the plain laws. -/
import Derived.Test.YtglkldhjffnhhaaPlMate3
namespace Go.Ab
theorem pool_ok {n : Int} {es : List Arc} (h : poolErr n es = 0) : GOk n es (-10000) ∧ n ≤ 9 := by
  unfold poolErr at h
  split at h
  · rename_i q; exact absurd h q
  · rename_i q
    split at h
    · cases h
    · exact ⟨graphErr_ok (by omega), by omega⟩
theorem pow512 {n : Int} (h : 1 ≤ n) (h9 : n ≤ 9) : Int.toNat ((1 : Int) * 2 ^ n.toNat) = 2 ^ n.toNat ∧ (1 : Int) * 2 ^ n.toNat = ((2 ^ n.toNat : Nat) : Int) ∧ 2 ^ n.toNat ≤ 512 ∧ 2 ≤ 2 ^ n.toNat := by
  have h1 : (1 : Int) * 2 ^ n.toNat = ((2 ^ n.toNat : Nat) : Int) := by rw [Int.one_mul, pow_nat]
  have h2 : 2 ^ n.toNat ≤ 2 ^ 9 := Nat.pow_le_pow_right (by decide) (by omega)
  have h3 : 2 ^ 1 ≤ 2 ^ n.toNat := Nat.pow_le_pow_right (by decide) (by omega)
  exact ⟨by rw [h1, Int.toNat_natCast], h1, by omega, by omega⟩
theorem pow9 {k : Nat} (h : k < 9) : 1 ≤ (1 : Int) * 2 ^ k ∧ (1 : Int) * 2 ^ k ≤ 256 := by
  have h2 : 2 ^ k ≤ 2 ^ 8 := Nat.pow_le_pow_right (by decide) (by omega)
  have h3 : 1 ≤ 2 ^ k := Nat.one_le_two_pow
  rw [Int.one_mul, pow_nat]
  omega
theorem ior9 {j k : Nat} (h : j < 9) (h2 : k < 9) : 0 ≤ ior ((1 : Int) * 2 ^ j) ((1 : Int) * 2 ^ k) ∧ ior ((1 : Int) * 2 ^ j) ((1 : Int) * 2 ^ k) ≤ 511 := by
  have := lt_has (z := ior ((1 : Int) * 2 ^ j) ((1 : Int) * 2 ^ k)) (n := 9) (ior0 _ _) fun v hv => by
    rw [has_ior, has_pow, has_pow, decide_eq_false (by omega), decide_eq_false (by omega)]; rfl
  exact ⟨ior0 _ _, by omega⟩
def mostL (n : Int) (es : List Arc) : List Int := (List.range (2 ^ n.toNat)).map fun (s : Nat) => nuZ es (s : Int)
def MostTo (n : Int) (es : List Arc) (o : List Int) (s : Nat) : Prop := o.length = 2 ^ n.toNat ∧ ∀ x : Nat, x < s → o.getD x 0 = nuZ es (x : Int)
theorem MostTo.start {n : Int} {es : List Arc} {k : Nat} (hk : k = 2 ^ n.toNat) : MostTo n es (List.replicate k 0) 1 :=
  ⟨by rw [List.length_replicate, hk], fun x hx => by
    obtain rfl : x = 0 := by omega
    rw [show ((0 : Nat) : Int) = 0 from rfl, nuZ_0]
    cases k <;> rfl⟩
theorem MostTo.set {n : Int} {es : List Arc} {o : List Int} {s : Nat} (h : MostTo n es o s) (hs : s < 2 ^ n.toNat) (v : Int) : MostTo n es (o.set s v) s ∧ (o.set s v).getD s 0 = v :=
  ⟨⟨by rw [List.length_set]; exact h.1, fun x hx => by rw [getD_set_ne _ _ _ _ _ (by omega)]; exact h.2 x hx⟩, getD_set_self _ _ _ _ (by rw [h.1]; exact hs)⟩
theorem MostTo.at_ {n : Int} {es : List Arc} {o : List Int} {s : Nat} (h : MostTo n es o s) {z : Int} (h0 : 0 ≤ z) (h1 : z < s) : o.getD z.toNat 0 = nuZ es z := by
  rw [h.2 z.toNat (by omega), Int.toNat_of_nonneg h0]
theorem MostTo.next {n : Int} {es : List Arc} {o : List Int} {s : Nat} (h : MostTo n es o s) (he : o.getD s 0 = nuZ es (s : Int)) : MostTo n es o (s + 1) :=
  ⟨h.1, fun x hx => by
    rcases Nat.lt_succ_iff_lt_or_eq.1 hx with q | q
    · exact h.2 x q
    · subst q; exact he⟩
theorem mostL_len (n : Int) (es : List Arc) : (mostL n es).length = 2 ^ n.toNat := by simp [mostL]
theorem mostL_at {n : Int} {es : List Arc} {x : Nat} (hx : x < 2 ^ n.toNat) : (mostL n es).getD x 0 = nuZ es (x : Int) := by
  rw [getD_lt _ _ _ (by rw [mostL_len]; exact hx)]; simp [mostL]
theorem mostL_atZ {n : Int} {es : List Arc} {z : Int} (h0 : 0 ≤ z) (hx : z < ((2 ^ n.toNat : Nat) : Int)) : (mostL n es).getD z.toNat 0 = nuZ es z := by
  rw [mostL_at (by omega), Int.toNat_of_nonneg h0]
theorem MostTo.end_ {n : Int} {es : List Arc} {o : List Int} {s : Nat} (h : MostTo n es o s) (hs : 2 ^ n.toNat ≤ s) : o = mostL n es :=
  list_ext 0 (by rw [h.1, mostL_len]) fun x hx => by rw [h.1] at hx; rw [h.2 x (by omega), mostL_at hx]
theorem bit_no9 {z : Int} (h : 0 ≤ z) {k : Nat} (hc : iand (z / 2 ^ k) 1 = 0) : has z k = false := by
  have := (show iand (z / 2 ^ k) 1 = if has z k then 1 else 0 by have := bit_has (z := z) (k : Int) h; rw [Int.toNat_natCast] at this; rw [← this]; unfold bit; rw [Int.toNat_natCast])
  rw [this] at hc
  by_cases q : has z k = true
  · rw [if_pos q] at hc; cases hc
  · exact Bool.eq_false_iff.2 q
end Go.Ab
namespace Go.Ab
theorem bit_9 {z : Int} (h : 0 ≤ z) (k : Nat) : iand (z / 2 ^ k) 1 = if has z k = true then 1 else 0 := by
  have := bit_has (z := z) (k : Int) h
  rw [Int.toNat_natCast] at this
  rw [← this]; unfold bit; rw [Int.toNat_natCast]
theorem bit_yes9 {z : Int} (h : 0 ≤ z) {k : Nat} (hc : iand (z / 2 ^ k) 1 = 1) : has z k = true := by
  rw [bit_9 h] at hc
  by_cases q : has z k = true
  · exact q
  · rw [if_neg q] at hc; cases hc
theorem bit_not9 {z : Int} (h : 0 ≤ z) {k : Nat} (hc : ¬ iand (z / 2 ^ k) 1 = 0) : has z k = true := by
  rw [bit_9 h] at hc
  by_cases q : has z k = true
  · exact q
  · rw [if_neg q] at hc; exact absurd rfl hc
theorem shr9 {z : Int} (h0 : 0 ≤ z) (h1 : z ≤ 65535) (k : Nat) : 0 ≤ z / 2 ^ k ∧ z / 2 ^ k ≤ 65535 := by
  have hp : (0 : Int) < 2 ^ k := Int.pow_pos (by decide)
  refine ⟨Int.ediv_nonneg h0 (by omega), ?_⟩
  have := Int.ediv_le_self (2 ^ k) h0
  omega
/-- The value at a set without its least node. -/
theorem MostTo.low {n : Int} {es : List Arc} {o : List Int} {s low : Nat} (h : MostTo n es o s) (hs : s < 2 ^ n.toNat) (hl : has (s : Int) low = true) {v : Int} (hv : v = o.getD (iandn (s : Int) (1 * 2 ^ low)).toNat 0) : Upto es (has (s : Int)) low 0 ((o.set s v).getD s 0) := by
  rw [(h.set hs v).2, hv, h.at_ (iandn0 _ _) (iandn_lt (by omega) hl (by rw [has_pow]; simp))]
  unfold nuZ
  rw [has_del]
  exact Upto.start es _ low
/-- What an arc of the least node brings. -/
theorem MostTo.arc {n : Int} {es : List Arc} {o : List Int} {s low i : Nat} (h : MostTo n es o s) (hs : s < 2 ^ n.toNat) (hl : has (s : Int) low = true) (hU : Upto es (has (s : Int)) low i (o.getD s 0)) (hi : i < es.length) {q : Int}
    (h1 : 0 ≤ (es.getD i default).src) (h2 : 0 ≤ (es.getD i default).dst) (ho : q = (es.getD i default).src + (es.getD i default).dst - low) (ht : (es.getD i default).src = low ∨ (es.getD i default).dst = low) (hne : q ≠ low) (hq : has (s : Int) q.toNat = true) :
    (0 ≤ o.getD (iandn (s : Int) (ior (1 * 2 ^ low) (1 * 2 ^ q.toNat))).toNat 0 ∧ 2 * o.getD (iandn (s : Int) (ior (1 * 2 ^ low) (1 * 2 ^ q.toNat))).toNat 0 ≤ n.toNat) ∧
    Upto es (has (s : Int)) low (i + 1) ((o.set s (max (o.getD s 0) (1 + o.getD (iandn (s : Int) (ior (1 * 2 ^ low) (1 * 2 ^ q.toNat))).toNat 0))).getD s 0) := by
  obtain ⟨hin, hcp⟩ := touch_yes h1 h2 ho ht hne hl hq
  have hlt : iandn (s : Int) (ior (1 * 2 ^ low) (1 * 2 ^ q.toNat)) < s := iandn_lt (v := low) (by omega) hl (by rw [has_ior, has_pow]; simp)
  have hat := h.at_ (iandn0 _ _) hlt
  have hb := nuZ_in (es := es) (n := n.toNat) (iandn0 (s : Int) (ior (1 * 2 ^ low) (1 * 2 ^ q.toNat))) (by omega)
  refine ⟨by rw [hat]; exact hb, ?_⟩
  rw [(h.set hs _).2]
  refine hU.yes hi hin ?_
  rw [hat]; unfold nuZ
  rw [has_cut, hcp]
theorem Upto.not {es : List Arc} {s low i : Nat} {b : Int} (hU : Upto es (has (s : Int)) low i b) {q : Int} (h1 : 0 ≤ (es.getD i default).src) (h2 : 0 ≤ (es.getD i default).dst) (ho : q = (es.getD i default).src + (es.getD i default).dst - low)
    (hn : ¬ ((es.getD i default).src = low ∨ (es.getD i default).dst = low) ∨ q = low ∨ has (s : Int) q.toNat = false) : Upto es (has (s : Int)) low (i + 1) b :=
  hU.no fun a c => touch_no h1 h2 ho (fun ⟨x, y, z⟩ => by
    rcases hn with w | w | w
    · exact w x
    · exact y w
    · rw [z] at w; cases w) a c
end Go.Ab
