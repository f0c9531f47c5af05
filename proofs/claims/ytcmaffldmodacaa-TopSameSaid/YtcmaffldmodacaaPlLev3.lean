/- Of levels: from round to round: the plain laws. -/
import Derived.Test.YtcmaffldmodacaaPlLev2
namespace Go.Ab
section
variable {n s t : Int} {es : List Arc} {F F2 B L Ld : List Int}
theorem lev_grow (hn : n ≤ 12) (hB : LevL n s es F B) (hL : LevL n s es F2 L) (hb : ∀ u v : Int, LeftL es F2 u v → LeftL es F u v ∨ (B.getD u.toNat 0 = B.getD v.toNat 0 + 1 ∧ 0 ≤ B.getD v.toNat 0)) : ∀ (d : Nat) (v : Int), 0 ≤ v → v < n → L.getD v.toNat 0 = d → 0 ≤ B.getD v.toNat 0 ∧ B.getD v.toNat 0 ≤ d
  | 0, v, v0, v1, hv => by
    have := hL.only v.toNat (by omega) hv
    have e : v = s := by omega
    subst e; rw [hB.src]; omega
  | d + 1, v, v0, v1, hv => by
    obtain ⟨u, u0, u1, u2, u3⟩ := hL.ahead v.toNat (by omega) (by omega)
    rw [Int.toNat_of_nonneg v0] at u3
    obtain ⟨g1, g2⟩ := lev_grow hn hB hL hb d u u0 u1 (by omega)
    rcases hb u v u3 with q | ⟨q1, q2⟩
    · have := hB.next u v u0 u1 v0 v1 g1 q
      omega
    · omega
theorem lev_dead (hn : n ≤ 12) (hB : LevL n s es F B) (hL : LevL n s es F2 L) (hb : ∀ u v : Int, LeftL es F2 u v → LeftL es F u v ∨ (B.getD u.toNat 0 = B.getD v.toNat 0 + 1 ∧ 0 ≤ B.getD v.toNat 0)) (hd : DeadOk t n es B F2 Ld) (hs : Ld.getD s.toNat 0 = -1) : ∀ (d : Nat) (v : Int), 0 ≤ v → v < n → L.getD v.toNat 0 = d → B.getD v.toNat 0 = d → Ld.getD v.toNat 0 = -1 ∧ (0 < d → v ≠ t)
  | 0, v, v0, v1, hv, _ => by
    have := hL.only v.toNat (by omega) hv
    have e : v = s := by omega
    subst e; exact ⟨hs, fun h => by omega⟩
  | d + 1, v, v0, v1, hv, hw => by
    obtain ⟨u, u0, u1, u2, u3⟩ := hL.ahead v.toNat (by omega) (by omega)
    rw [Int.toNat_of_nonneg v0] at u3
    obtain ⟨g1, g2⟩ := lev_grow hn hB hL hb d u u0 u1 (by omega)
    have hu : B.getD u.toNat 0 = d := by
      rcases hb u v u3 with q | ⟨q1, q2⟩
      · have := hB.next u v u0 u1 v0 v1 g1 q
        omega
      · omega
    obtain ⟨i1, _⟩ := lev_dead hn hB hL hb hd hs d u u0 u1 (by omega) hu
    obtain ⟨k1, k2⟩ := hd u v u0 u1 v0 v1 g1 i1 u3 (by omega)
    exact ⟨k2, fun _ => k1⟩
/-- From one round to the next the target is farther. -/
theorem lev_far (hn : n ≤ 12) (t0 : 0 ≤ t) (t1 : t < n) (hB : LevL n s es F B) (hL : LevL n s es F2 L) (hb : ∀ u v : Int, LeftL es F2 u v → LeftL es F u v ∨ (B.getD u.toNat 0 = B.getD v.toNat 0 + 1 ∧ 0 ≤ B.getD v.toNat 0)) (hd : DeadOk t n es B F2 Ld) (hs : Ld.getD s.toNat 0 = -1) (hne : s ≠ t) (ht : 0 ≤ L.getD t.toNat 0) : B.getD t.toNat 0 + 1 ≤ L.getD t.toNat 0 := by
  obtain ⟨d, hdd⟩ : ∃ d : Nat, L.getD t.toNat 0 = d := ⟨(L.getD t.toNat 0).toNat, by omega⟩
  obtain ⟨g1, g2⟩ := lev_grow hn hB hL hb d t t0 t1 hdd
  by_cases e : B.getD t.toNat 0 = d
  · have := (lev_dead hn hB hL hb hd hs d t t0 t1 hdd e).2
    rcases Nat.eq_zero_or_pos d with z | z
    · subst z
      have := hL.only t.toNat (by omega) hdd
      omega
    · exact absurd rfl (this z)
  · omega
theorem lev_all (hn : n ≤ 12) (hL : LevL n s es F L) (s0 : 0 ≤ s) : ∀ (d : Nat) (v : Int), 0 ≤ v → v < n → L.getD v.toNat 0 = d → ∀ i, i ≤ d → ∃ u : Nat, (u : Int) < n ∧ L.getD u 0 = (i : Nat)
  | 0, v, v0, v1, hv, i, hi => ⟨v.toNat, by omega, by rw [hv]; omega⟩
  | d + 1, v, v0, v1, hv, i, hi => by
    rcases Nat.lt_succ_iff_lt_or_eq.1 (Nat.lt_succ_of_le hi) with q | rfl
    · obtain ⟨u, u0, u1, u2, _⟩ := hL.ahead v.toNat (by omega) (by omega)
      exact lev_all hn hL s0 d u u0 u1 (by omega) i (by omega)
    · exact ⟨v.toNat, by omega, hv⟩
/-- No level is as high as there are nodes. -/
theorem lev_top (hn : n ≤ 12) (hL : LevL n s es F L) (s0 : 0 ≤ s) {v : Int} (v0 : 0 ≤ v) (v1 : v < n) (hv : 0 ≤ L.getD v.toNat 0) : L.getD v.toNat 0 < n := by
  obtain ⟨d, hd⟩ : ∃ d : Nat, L.getD v.toNat 0 = d := ⟨(L.getD v.toNat 0).toNat, by omega⟩
  have := nodup_len (l := List.range (d + 1)) (m := (List.range n.toNat).map fun u => (L.getD u 0).toNat) List.nodup_range (fun x hx => by
    obtain ⟨u, u1, u2⟩ := lev_all hn hL s0 d v v0 v1 hd x (by have := List.mem_range.1 hx; omega)
    exact List.mem_map.2 ⟨u, List.mem_range.2 (by omega), by rw [u2, Int.toNat_natCast]⟩)
  rw [List.length_range, List.length_map, List.length_range] at this
  omega
theorem lev_le (hok : NOk n s t es) (hL : LevL n s es F L) {v : Nat} (hv : v < 12) : L.getD v 0 ≤ 11 := by
  have hn := hok.n2
  by_cases h : 0 < L.getD v 0
  · by_cases hvn : (v : Int) < n
    · have := lev_top hn hL hok.s0 (v := (v : Int)) (by omega) hvn (by rw [Int.toNat_natCast]; omega)
      rw [Int.toNat_natCast] at this; omega
    · obtain ⟨u, u0, u1, _, k, hk, ⟨k1, k2, _⟩ | ⟨k1, k2, _⟩⟩ := hL.ahead v hv h
      · obtain ⟨e1, e2, e3, e4, _⟩ := hok.at_ hk; omega
      · obtain ⟨e1, e2, e3, e4, _⟩ := hok.at_ hk; omega
  · omega
/-- At a round's start the source may be asked. -/
theorem LevL.ask (hok : NOk n s t es) (hF : FIn es F) (hB : LevL n s es F B) : SendIn n s t es B 12 s 600000 B F where
  fin := hF
  lB := hB.len
  lL := hB.len
  a0 := hok.s0
  a1 := hok.s1
  lv := ⟨rfl, by rw [hB.src]; omega⟩
  low := fun v _ => .inl rfl
  tl := rfl
  top := fun v hv => ⟨hB.lo v hv, lev_le hok hB hv⟩
  fuel := by rw [hB.src]; decide
  m0 := by decide
  m1 := by decide
  dead := fun v w v0 v1 w0 w1 hv hd => by omega
/-- The target is not come to: a side that is shut. -/
theorem lev_cut (hok : NOk n s t es) (hf : FIn es F) (hL : LevL n s es F L) (ht : L.getD t.toNat 0 < 0) : ∃ z, Parts n s t z ∧ Shut es F z := by
  have h2 := hok.n2
  have h4 := hok.s0
  have h5 := hok.s1
  have h6 := hok.t0
  have h7 := hok.t1
  refine ⟨((maskOf (fun v => decide (0 ≤ L.getD v 0)) n.toNat : Nat) : Int), ⟨by omega, Int.ofNat_lt.2 (maskOf_lt _ _), ?_, ?_⟩, ?_⟩
  · have := bit_nat (maskOf (fun v => decide (0 ≤ L.getD v 0)) n.toNat) s.toNat
    rw [show ((s.toNat : Nat) : Int) = s by omega, maskOf_bit _ _ _ (by omega), if_pos (by rw [hL.src]; rfl)] at this
    exact this
  · have := bit_nat (maskOf (fun v => decide (0 ≤ L.getD v 0)) n.toNat) t.toNat
    rw [show ((t.toNat : Nat) : Int) = t by omega, maskOf_bit _ _ _ (by omega), if_neg (by simpa using ht)] at this
    exact this
  · intro k hk
    obtain ⟨a1, a2, a3, a4, _, _⟩ := hok.at_ hk
    have hfk := hf.at_ k hk
    have b1 := bit_nat (maskOf (fun v => decide (0 ≤ L.getD v 0)) n.toNat) (es.getD k default).src.toNat
    have b2 := bit_nat (maskOf (fun v => decide (0 ≤ L.getD v 0)) n.toNat) (es.getD k default).dst.toNat
    rw [show (((es.getD k default).src.toNat : Nat) : Int) = (es.getD k default).src by omega, maskOf_bit _ _ _ (by omega)] at b1
    rw [show (((es.getD k default).dst.toNat : Nat) : Int) = (es.getD k default).dst by omega, maskOf_bit _ _ _ (by omega)] at b2
    have d1 : (decide (0 ≤ L.getD (es.getD k default).src.toNat 0) = true) ↔ 0 ≤ L.getD (es.getD k default).src.toNat 0 := decide_eq_true_iff
    have d2 : (decide (0 ≤ L.getD (es.getD k default).dst.toNat 0) = true) ↔ 0 ≤ L.getD (es.getD k default).dst.toNat 0 := decide_eq_true_iff
    rw [b1, b2]
    constructor
    · intro e1 e2
      split at e1
      · rename_i p1
        split at e2
        · cases e2
        · rename_i p2
          rcases Int.lt_or_le (F.getD k 0) (es.getD k default).cap with q | q
          · exact absurd (d2.2 (hL.next _ _ a1 a2 a3 a4 (d1.1 p1) ⟨k, hk, .inl ⟨rfl, rfl, q⟩⟩).1) p2
          · omega
      · cases e1
    · intro e1 e2
      split at e2
      · rename_i p2
        split at e1
        · cases e1
        · rename_i p1
          rcases Int.lt_or_le 0 (F.getD k 0) with q | q
          · exact absurd (d1.2 (hL.next _ _ a3 a4 a1 a2 (d2.1 p2) ⟨k, hk, .inr ⟨rfl, rfl, q⟩⟩).1) p1
          · omega
      · cases e2
end
/-- Within a round: B are its levels, F is the flow at its start. -/
structure InnerL (n s t : Int) (es : List Arc) (v : Int) (B F : List Int) (v2 : Int) (L2 F2 : List Int) : Prop where
  lev : LevL n s es F B
  tin : 0 ≤ B.getD t.toNat 0
  fl : FlOk n s t es F2
  val : gone es F2 s = v2
  lL : L2.length = 12
  low : ∀ u, u < 12 → L2.getD u 0 = B.getD u 0 ∨ L2.getD u 0 = -1
  tl : L2.getD t.toNat 0 = B.getD t.toNat 0
  src : L2.getD s.toNat 0 = B.getD s.toNat 0
  dead : DeadOk t n es B F2 L2
  back : ∀ u w : Int, LeftL es F2 u w → LeftL es F u w ∨ (B.getD u.toNat 0 = B.getD w.toNat 0 + 1 ∧ 0 ≤ B.getD w.toNat 0)
  same : v2 = v → F2 = F
  ge : v ≤ v2
theorem InnerL.start {n s t v : Int} {es : List Arc} {F B : List Int} (hfl : FlOk n s t es F) (hv : gone es F s = v) (hB : LevL n s es F B) (ht : 0 ≤ B.getD t.toNat 0) : InnerL n s t es v B F v B F :=
  ⟨hB, ht, hfl, hv, hB.len, fun _ _ => .inl rfl, rfl, rfl, fun v w v0 v1 w0 w1 hv hd => by omega, fun _ _ q => .inl q, fun _ => rfl, Int.le_refl _⟩
theorem InnerL.ask {n s t v v2 : Int} {es : List Arc} {F B L2 F2 : List Int} (h : InnerL n s t es v B F v2 L2 F2) : SendIn n s t es B 12 s 600000 L2 F2 where
  fin := h.fl.fin
  lB := h.lev.len
  lL := h.lL
  a0 := h.fl.net.s0
  a1 := h.fl.net.s1
  lv := ⟨h.src, by rw [h.lev.src]; omega⟩
  low := h.low
  tl := h.tl
  top := fun v hv => ⟨h.lev.lo v hv, lev_le h.fl.net h.lev hv⟩
  fuel := by rw [h.lev.src]; decide
  m0 := by decide
  m1 := by decide
  dead := h.dead
theorem send_flow {n s t x : Int} {es : List Arc} {B L F L2 F2 : List Int} (h : SendOk n s t es B s 600000 L F x L2 F2) (hfl : FlOk n s t es F) : FlOk n s t es F2 ∧ gone es F2 s = gone es F s + x := by
  have hok := hfl.net
  refine ⟨⟨hok, h.fin, fun k hs ht => ?_⟩, ?_⟩
  · rcases Int.lt_or_le (k : Int) n with q | q
    · rw [h.gone k (by omega) q, if_neg hs, if_neg ht, hfl.kept k hs ht]; rfl
    · exact gone_far (fun a ha => ⟨(hok.arc a ha).1, (hok.arc a ha).2.1, (hok.arc a ha).2.2.1, (hok.arc a ha).2.2.2.1⟩) q
  · rw [h.gone s hok.s0 hok.s1, if_pos rfl, if_neg hok.ne]; omega
theorem InnerL.step {n s t v v2 x : Int} {es : List Arc} {F B L2 F2 L3 F3 : List Int} (h : InnerL n s t es v B F v2 L2 F2) (c : SendOk n s t es B s 600000 L2 F2 x L3 F3) (hx : x ≠ 0) : InnerL n s t es v B F (v2 + x) L3 F3 := by
  obtain ⟨f1, f2⟩ := send_flow c h.fl
  have x0 := c.x0
  have hge := h.ge
  refine ⟨h.lev, h.tin, f1, by rw [f2, h.val], c.lL, fun u hu => ?_, by rw [c.tl]; exact h.tl, by rw [c.live hx]; exact h.src, c.dead, fun u w hl => ?_, fun e => by omega, by omega⟩
  · rcases c.low u hu with q | ⟨q, _⟩
    · rw [q]; exact h.low u hu
    · exact .inr q
  · rcases c.back u w hl with q | q
    · exact h.back u w q
    · exact .inr q
/-- From round to round. -/
structure RoundL (n s t : Int) (es : List Arc) (r v : Int) (L F : List Int) : Prop where
  fl : FlOk n s t es F
  val : gone es F s = v
  lL : L.length = 12
  r0 : 0 ≤ r
  r1 : r < n
  v0 : 0 ≤ v
  far : ∀ L2 : List Int, LevL n s es F L2 → 0 ≤ L2.getD t.toNat 0 → r + 1 ≤ L2.getD t.toNat 0
  none : r = 0 ↔ v = 0
theorem RoundL.start {n s t : Int} {es : List Arc} {L : List Int} (hE : netErr n s t es = 0) (hL : L.length = 12) : RoundL n s t es 0 0 L (List.replicate es.length 0) := by
  have hok := netErr_ok hE
  refine ⟨flowErr_ok (flowErr_zeros hE), gone_zeros _ _, hL, Int.le_refl _, by have := hok.s0; have := hok.s1; omega, Int.le_refl _, fun L2 h2 ht => ?_, Iff.rfl⟩
  have h3 := h2.only t.toNat
  have := hok.t0
  have := hok.t1
  have := hok.n2
  have := hok.ne
  rcases Int.lt_or_le 0 (L2.getD t.toNat 0) with q | q
  · omega
  · have := h3 (by omega) (by omega); omega
theorem InnerL.fin {n s t r v v2 : Int} {es : List Arc} {L F B L2 F2 L3 F3 : List Int} (hR : RoundL n s t es r v L F) (h : InnerL n s t es v B F v2 L2 F2) (c : SendOk n s t es B s 600000 L2 F2 0 L3 F3) : RoundL n s t es (r + 1) v2 L3 F3 := by
  have e := c.none rfl
  subst e
  have hok := h.fl.net
  have hn := hok.n2
  obtain ⟨_, hs⟩ := c.shut rfl (by decide)
  have r0 := hR.r0
  have v0 := hR.v0
  have hge := h.ge
  have hfar := hR.far B h.lev h.tin
  have htop := lev_top hn h.lev hok.s0 hok.t0 hok.t1 h.tin
  have hne : v2 ≠ v := fun e => by
    have e2 := h.same e
    subst e2
    obtain ⟨d, hd⟩ : ∃ d : Nat, B.getD t.toNat 0 = d := ⟨(B.getD t.toNat 0).toNat, by have := h.tin; omega⟩
    exact (lev_dead hn h.lev h.lev (fun _ _ q => .inl q) c.dead hs d t hok.t0 hok.t1 hd hd).2 (by omega) rfl
  refine ⟨h.fl, h.val, c.lL, by omega, by omega, by omega, fun L4 h4 ht => ?_, ⟨fun q => by omega, fun q => by omega⟩⟩
  have := lev_far hn hok.t0 hok.t1 h.lev h4 h.back c.dead hs hok.ne ht
  omega
/-- What Of answers. -/
def LevOk (n s t : Int) (es : List Arc) (e : Int) (g : List Int) (v r : Int) : Prop :=
  (e ≠ 0 ∧ g = [] ∧ v = 0 ∧ r = 0) ∨ (e = 0 ∧ flowErr n s t es g = 0 ∧ gone es g s = v ∧ v = (parted n s t es).1 ∧ 0 ≤ r ∧ r < n ∧ (r = 0 ↔ v = 0))
theorem RoundL.end_ {n s t r v : Int} {es : List Arc} {L F B : List Int} (h : RoundL n s t es r v L F) (hE : netErr n s t es = 0) (hB : LevL n s es F B) (ht : ¬ 0 ≤ B.getD t.toNat 0) : LevOk n s t es 0 F v r := by
  obtain ⟨z, z1, z2⟩ := lev_cut h.fl.net h.fl.fin hB (by omega)
  exact .inr ⟨rfl, flowErr_of h.fl hE, h.val, by rw [← h.val]; exact greatest h.fl z1 z2, h.r0, h.r1, h.none⟩
end Go.Ab
