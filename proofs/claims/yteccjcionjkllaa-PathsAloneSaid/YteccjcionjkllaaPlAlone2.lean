/- Of ways that have no node in common (MENGER): how few nodes part them. The plain laws. -/
import Derived.Test.YteccjcionjkllaaPlAlone
import Derived.Test.YteccjcionjkllaaPlPTree
namespace Go.Ab
def blockTo (s t z : Int) (k : Nat) : List Int := (nodesTo s t k).filter (crossB z)
theorem blockTo_yes {s t z : Int} {k : Nat} (h : ((k : Int) ≠ s ∧ (k : Int) ≠ t) ∧ crossB z k = true) : blockTo s t z (k + 1) = blockTo s t z k ++ [(k : Int)] := by
  rw [blockTo, nodesTo_yes h.1, List.filter_append]
  simp only [List.filter_cons, List.filter_nil]
  rw [if_pos h.2]; rfl
theorem blockTo_no {s t z : Int} {k : Nat} (h : ¬ (((k : Int) ≠ s ∧ (k : Int) ≠ t) ∧ crossB z k = true)) : blockTo s t z (k + 1) = blockTo s t z k := by
  by_cases h1 : (k : Int) ≠ s ∧ (k : Int) ≠ t
  · rw [blockTo, nodesTo_yes h1, List.filter_append]
    simp only [List.filter_cons, List.filter_nil]
    rw [if_neg (fun q => h ⟨h1, q⟩), List.append_nil]; rfl
  · rw [blockTo, nodesTo_no h1]; rfl
theorem blockTo_mem {s t z x : Int} {k : Nat} : x ∈ blockTo s t z k ↔ (0 ≤ x ∧ x < k ∧ x ≠ s ∧ x ≠ t) ∧ bit z (2 * x) = 1 ∧ bit z (2 * x + 1) = 0 := by
  unfold blockTo
  rw [List.mem_filter, nodesTo_mem]
  unfold crossB
  simp
theorem blockTo_up {s t z : Int} {k : Nat} : (blockTo s t z k).Pairwise (· < ·) := nodesTo_up.filter _
theorem blockTo_le (s t z : Int) (k : Nat) : (blockTo s t z k).length ≤ k := Nat.le_trans (List.length_filter_le _ _) (nodesTo_le s t k)
theorem kept_none {n s t z : Int} {es : List Arc} (hz : 0 ≤ z) (h : ∀ b ∈ es, keepB s t b → ¬ (bit z (2 * b.src + 1) = 1 ∧ bit z (2 * b.dst) = 0)) : capOf (aloneNet n s t es) z = ((blockTo s t z n.toNat).length : Int) := by
  unfold aloneNet aloneTo
  rw [capOf_append, cap_nodes hz, cap_none hz (fun x hx => ?_)]
  · simp [blockTo]
  · obtain ⟨k, hk, rfl⟩ := List.mem_map.1 hx
    have := keptTo_mem.1 hk
    exact h _ (getD_mem (by omega)) this.2.2
theorem alone_le {n s t z : Int} {es : List Arc} (h : AlOk n s t es) (hz : 0 ≤ z) (hb : Bars s t es z) : (parted (2 * n) (2 * s + 1) (2 * t) (aloneNet n s t es)).1 ≤ onesOf z := by
  obtain ⟨⟨hzs, hzt⟩, hbl⟩ := hb
  have h1 := h.n1
  have h6 := h.n6
  have s0 := h.s0
  have s1 := h.s1
  have t0 := h.t0
  have t1 := h.t1
  have hA := h.toGOk.inR
  have hRA := restZ_inR (z := z) hA
  have hno := (blocked_iff (by omega) hA).1 hbl
  have hreach : ∀ v : Int, dist (restZ z es) s v < 1099511627776 ↔ ∃ j, wk (restZ z es) j s v = true := fun v => by
    rcases dist_cases (by omega) hRA s v with ⟨k, e1, e2, e3, _⟩ | ⟨e1, e2⟩
    · exact ⟨fun _ => ⟨k, e3⟩, fun _ => by omega⟩
    · constructor
      · intro q; omega
      · rintro ⟨j, q⟩; rw [e2 j] at q; cases q
  obtain ⟨R, hR⟩ : ∃ R : Nat → Bool, ∀ v : Nat, R v = true ↔ (∃ j, wk (restZ z es) j s (v : Int) = true) ∧ has z v = false :=
    ⟨fun v => decide (dist (restZ z es) s (v : Int) < 1099511627776) && !has z v, fun v => by rw [Bool.and_eq_true, decide_eq_true_eq, hreach]; simp⟩
  obtain ⟨p, hp⟩ : ∃ p : Nat → Bool, ∀ v : Nat, p v = (R (v / 2) || (decide (v % 2 = 0) && has z (v / 2))) := ⟨_, fun _ => rfl⟩
  obtain ⟨q, hq⟩ : ∃ q : Int, q = ((maskOf p (2 * n).toNat : Nat) : Int) := ⟨_, rfl⟩
  have q0 : 0 ≤ q := by omega
  have hodd : ∀ v : Int, 0 ≤ v → v < n → (bit q (2 * v + 1) = 1 ↔ R v.toNat = true) := fun v v0 v1 => by
    rw [bit_yes q0, hq, has_maskOf p (by omega), hp, show (2 * v + 1).toNat / 2 = v.toNat by omega, decide_eq_false (by omega : ¬ (2 * v + 1).toNat % 2 = 0)]
    simp
  have hev : ∀ v : Int, 0 ≤ v → v < n → (bit q (2 * v) = 1 ↔ R v.toNat = true ∨ has z v.toNat = true) := fun v v0 v1 => by
    rw [bit_yes q0, hq, has_maskOf p (by omega), hp, show (2 * v).toNat / 2 = v.toNat by omega, decide_eq_true (by omega : (2 * v).toNat % 2 = 0)]
    simp
  have hRt : ¬ R t.toNat = true := fun k => by
    obtain ⟨⟨j, hj⟩, _⟩ := (hR _).1 k
    rw [Int.toNat_of_nonneg t0, hno j] at hj; cases hj
  have hzt2 := (bit_no hz).1 hzt
  have hparts : Parts (2 * n) (2 * s + 1) (2 * t) q := by
    refine ⟨q0, by rw [hq]; exact_mod_cast maskOf_lt p _, (hodd s s0 s1).2 ((hR _).2 ⟨⟨0, by rw [Int.toNat_of_nonneg s0]; exact wk_zero.2 rfl⟩, (bit_no hz).1 hzs⟩), ?_⟩
    rcases bit_01 (2 * t) q0 with e | e
    · exact e
    · rcases (hev t t0 t1).1 e with e | e
      · exact absurd e hRt
      · rw [hzt2] at e; cases e
  have hle := parted_le h.net.toGOk hparts
  rw [kept_none q0] at hle
  · refine Int.le_trans hle ?_
    unfold onesOf
    have : (blockTo s t q n.toNat).length ≤ many z 16 := many_ge blockTo_up fun k hk => by
      obtain ⟨⟨k0, k1, _, _⟩, e1, e2⟩ := blockTo_mem.1 hk
      refine ⟨k0, by omega, ?_⟩
      rcases (hev k k0 (by omega)).1 e1 with e | e
      · have := (hodd k k0 (by omega)).2 e; omega
      · exact e
    omega
  · rintro b hb ⟨k1, k2, k3⟩ ⟨e1, e2⟩
    obtain ⟨b1, b2, b3, b4, _, _⟩ := h.arc b hb
    obtain ⟨⟨j, hj⟩, hns⟩ := (hR _).1 ((hodd b.src b1 b2).1 e1)
    have hnd : ¬ (R b.dst.toNat = true ∨ has z b.dst.toNat = true) := fun k => by have := (hev b.dst b3 b4).2 k; omega
    have hzd : has z b.dst.toNat = false := by
      cases e : has z b.dst.toNat with
      | true => exact absurd (.inr e) hnd
      | false => rfl
    refine hnd (.inl ((hR _).2 ⟨⟨j + 1, ?_⟩, hzd⟩))
    rw [Int.toNat_of_nonneg b1] at hj
    rw [Int.toNat_of_nonneg b3]
    exact wk_cat (wk_one (restZ_mem.2 ⟨hb, (bit_no hz).2 hns, (bit_no hz).2 hzd⟩)) hj
theorem alone_few {n s t : Int} {es : List Arc} (h : AlOk n s t es) : (parted (2 * n) (2 * s + 1) (2 * t) (aloneNet n s t es)).1 ≤ n - 2 := by
  have h1 := h.n1
  have h6 := h.n6
  have s0 := h.s0
  have s1 := h.s1
  have t0 := h.t0
  have t1 := h.t1
  have hnn : ∀ k ∈ nodesTo s t n.toNat, 0 ≤ k := fun k hk => (nodesTo_mem.1 hk).1
  have hbit : ∀ v, 0 ≤ v → (bit (bitsOf (nodesTo s t n.toNat)) v = 1 ↔ v ∈ nodesTo s t n.toNat) := fun v hv => bitsOf_bit hnn hv
  have hb0 : ∀ v, v ∉ nodesTo s t n.toNat → 0 ≤ v → bit (bitsOf (nodesTo s t n.toNat)) v = 0 := fun v hv h0 => by
    rcases bit_01 v (bitsOf_nn (nodesTo s t n.toNat)) with e | e
    · exact e
    · exact absurd ((hbit v h0).1 e) hv
  have hle := alone_le h (bitsOf_nn (nodesTo s t n.toNat)) ⟨⟨hb0 s (fun q => (nodesTo_mem.1 q).2.2.1 rfl) s0, hb0 t (fun q => (nodesTo_mem.1 q).2.2.2 rfl) t0⟩, (blocked_iff (by omega) h.toGOk.inR).2 fun j => by
    induction j with
    | zero =>
      cases e : wk (restZ (bitsOf (nodesTo s t n.toNat)) es) 0 s t with
      | false => rfl
      | true => exact absurd (wk_zero.1 e) h.ne
    | succ j ih =>
      cases e : wk (restZ (bitsOf (nodesTo s t n.toNat)) es) (j + 1) s t with
      | false => rfl
      | true =>
        obtain ⟨a, ha, e1, e2⟩ := wk_succ.1 e
        obtain ⟨a1, a2, a3⟩ := restZ_mem.1 ha
        obtain ⟨b1, b2, b3, b4, _, _⟩ := h.arc a a1
        have hnm : a.dst ∉ nodesTo s t n.toNat := fun q => by have := (hbit a.dst b3).2 q; omega
        by_cases f1 : a.dst = s
        · rw [f1, ih] at e2; cases e2
        · by_cases f2 : a.dst = t
          · exact absurd ⟨e1, f2⟩ (h.nod a a1)
          · exact absurd (nodesTo_mem.2 ⟨b3, by omega, f1, f2⟩) hnm⟩
  have hm := bitsOf_many (m := 16) (nodesTo s t n.toNat) (nodesTo_up.imp fun h => by omega) fun k hk => by have := nodesTo_mem.1 hk; omega
  have := h.nodes
  unfold onesOf at hle
  omega
theorem alone_block {n s t z : Int} {es : List Arc} (h : AlOk n s t es) (hz : MinCut (2 * n) (2 * s + 1) (2 * t) (aloneNet n s t es) z) :
    ((blockTo s t z n.toNat).length : Int) = (parted (2 * n) (2 * s + 1) (2 * t) (aloneNet n s t es)).1 ∧ Bars s t es (bitsOf (blockTo s t z n.toNat)) := by
  have h1 := h.n1
  have h6 := h.n6
  have s0 := h.s0
  have s1 := h.s1
  have t0 := h.t0
  have t1 := h.t1
  have hfew := alone_few h
  obtain ⟨⟨z0, z1, z2, z3⟩, hcap⟩ := hz
  have hkn : ∀ b ∈ es, keepB s t b → ¬ (bit z (2 * b.src + 1) = 1 ∧ bit z (2 * b.dst) = 0) := fun b hb hk q => by
    have := cap_ge z0 (a := keepA b) (fun x hx => (h.net.arc x hx).2.2.2.2.1) (alone_keep hb hk) q.1 q.2
    simp only [keepA] at this
    omega
  have hlen := kept_none (n := n) z0 hkn
  refine ⟨by omega, ?_⟩
  have hnn : ∀ k ∈ blockTo s t z n.toNat, 0 ≤ k := fun k hk => (blockTo_mem.1 hk).1.1
  have hbit : ∀ v, 0 ≤ v → (bit (bitsOf (blockTo s t z n.toNat)) v = 1 ↔ v ∈ blockTo s t z n.toNat) := fun v hv => bitsOf_bit hnn hv
  have hb0 : ∀ v, v ∉ blockTo s t z n.toNat → 0 ≤ v → bit (bitsOf (blockTo s t z n.toNat)) v = 0 := fun v hv h0 => by
    rcases bit_01 v (bitsOf_nn (blockTo s t z n.toNat)) with e | e
    · exact e
    · exact absurd ((hbit v h0).1 e) hv
  refine ⟨⟨hb0 s (fun q => (blockTo_mem.1 q).1.2.2.1 rfl) s0, hb0 t (fun q => (blockTo_mem.1 q).1.2.2.2 rfl) t0⟩, (blocked_iff (by omega) h.toGOk.inR).2 fun j => ?_⟩
  have hstay : ∀ (j : Nat) (u v : Int), wk (restZ (bitsOf (blockTo s t z n.toNat)) es) j u v = true → u ≠ t → bit z (2 * u + 1) = 1 → v ≠ t := fun j => by
    induction j with
    | zero => intro u v hw hu _; rw [← wk_zero.1 hw]; exact hu
    | succ j ih =>
      intro u v hw hu hb
      obtain ⟨a, ha, e1, e2⟩ := wk_succ.1 hw
      obtain ⟨a1, a2, a3⟩ := restZ_mem.1 ha
      obtain ⟨b1, b2, b3, b4, _, _⟩ := h.arc a a1
      have hnm : a.dst ∉ blockTo s t z n.toNat := fun q => by have := (hbit a.dst b3).2 q; omega
      by_cases f0 : a.dst = u
      · exact ih _ _ e2 (by rw [f0]; exact hu) (by rw [f0]; exact hb)
      · by_cases f1 : a.dst = s
        · exact ih _ _ e2 (by rw [f1]; exact h.ne) (by rw [f1]; exact z2)
        · have hk : bit z (2 * a.dst) = 1 := by
            rcases bit_01 (2 * a.dst) z0 with e | e
            · exact absurd ⟨by rw [e1]; exact hb, e⟩ (hkn a a1 ⟨by rw [e1]; exact hu, f1, by rw [e1]; exact fun q => f0 q.symm⟩)
            · exact e
          have f2 : a.dst ≠ t := fun q => by rw [q] at hk; omega
          refine ih _ _ e2 f2 ?_
          rcases bit_01 (2 * a.dst + 1) z0 with e | e
          · exact absurd (blockTo_mem.2 ⟨⟨b3, by omega, f1, f2⟩, hk, e⟩) hnm
          · exact e
  cases e : wk (restZ (bitsOf (blockTo s t z n.toNat)) es) j s t with
  | false => rfl
  | true => exact absurd rfl (hstay j s t e h.ne z2)
theorem blockOf_eq {n s t : Int} {es : List Arc} (h : AlOk n s t es) : blockOf n s t es = (parted (2 * n) (2 * s + 1) (2 * t) (aloneNet n s t es)).1 := by
  obtain ⟨z, hz⟩ := MinCut.exists_ h.net
  obtain ⟨b1, b2⟩ := alone_block h hz
  have hfew := alone_few h
  have h1 := h.n1
  have h6 := h.n6
  have hr : ∀ k ∈ blockTo s t z n.toNat, 0 ≤ k ∧ k < n.toNat := fun k hk => by have := blockTo_mem.1 hk; omega
  have hnd : (blockTo s t z n.toNat).Nodup := blockTo_up.imp fun h => by omega
  have hm := bitsOf_many (m := 16) (blockTo s t z n.toNat) hnd fun k hk => by have := hr k hk; omega
  have hlt := bitsOf_lt hr
  have hnn := bitsOf_nn (blockTo s t z n.toNat)
  have hc : ((bitsOf (blockTo s t z n.toNat)).toNat : Int) = bitsOf (blockTo s t z n.toNat) := Int.toNat_of_nonneg hnn
  obtain ⟨f1, f2⟩ := blockOf_fold (n := n) (s := s) (t := t) (es := es) (m := (parted (2 * n) (2 * s + 1) (2 * t) (aloneNet n s t es)).1) (by omega) (fun k hk => alone_le h (by omega) hk) (2 ^ n.toNat)
  have f3 := f2 (bitsOf (blockTo s t z n.toNat)).toNat (by omega) (by rw [hc]; exact b2)
  unfold blockOf
  rw [hc] at f3
  unfold onesOf at f3
  omega
end Go.Ab
