/- The abstract machine: a slice of records from its second element on is a slice of its own. -/
import Derived.Test.YtcmaffldmodacaaAbC
namespace Go.Ab
open Go
theorem MOk_shiftR {M : Mem} (hM : MOk M) (id off : Nat) (c c' : C1) (h : look id M.H = some (.recs c)) (hl : off + c'.len = c.len) (hz : c'.sz = c.sz) (hc : ∀ i j, i < c'.len → j < c.sz → c'.cell i j = c.cell (off + i) j) :
    MOk ⟨fun x => if x.1 = id then (M.μ x).map (fun bp => (bp.1, bp.2 + off * c.sz)) else M.μ x, ins id (.recs c') (mapV (clrO (Nat.beq id)) M.H), M.w, M.free⟩ ∧
    Ext (Nat.beq id) M ⟨fun x => if x.1 = id then (M.μ x).map (fun bp => (bp.1, bp.2 + off * c.sz)) else M.μ x, ins id (.recs c') (mapV (clrO (Nat.beq id)) M.H), M.w, M.free⟩ := by
  have hlook : ∀ (x : Key) ox, lk (ins id (.recs c') (mapV (clrO (Nat.beq id)) M.H)) x = some ox → (x = (id, none) ∧ ox = .recs c') ∨ (x.1 ≠ id ∧ ∃ o1, lk M.H x = some o1 ∧ ox = clrO (Nat.beq id) o1) := by
    intro x ox hx
    by_cases hxi : x.1 = id
    · obtain ⟨x1, r⟩ := x
      simp only at hxi
      subst hxi
      cases r with
      | none =>
        rw [lk_ins_self] at hx
        cases hx
        exact .inl ⟨rfl, rfl⟩
      | some i => rw [lk_ins_row rfl] at hx; cases hx
    · rw [lk_ins_ne hxi] at hx
      obtain ⟨o1, h1, rfl⟩ := lk_clr hx
      exact .inr ⟨hxi, o1, h1, rfl⟩
  -- the block that a number stands for is the same as before
  have hμ : ∀ (x : Key) b q, (if x.1 = id then (M.μ x).map (fun bp => (bp.1, bp.2 + off * c.sz)) else M.μ x) = some (b, q) → ∃ q0, M.μ x = some (b, q0) ∧ (x.1 = id → q = q0 + off * c.sz) ∧ (x.1 ≠ id → q = q0) := by
    intro x b q hx
    by_cases hxi : x.1 = id
    · rw [if_pos hxi, Option.map_eq_some_iff] at hx
      obtain ⟨⟨b0, q0⟩, h1, h2⟩ := hx
      simp only [Prod.mk.injEq] at h2
      obtain ⟨rfl, rfl⟩ := h2
      exact ⟨q0, h1, fun _ => rfl, fun hn => absurd hxi hn⟩
    · rw [if_neg hxi] at hx
      exact ⟨q, hx, fun hn => absurd hn hxi, fun _ => rfl⟩
  have hext : Ext (Nat.beq id) M ⟨fun x => if x.1 = id then (M.μ x).map (fun bp => (bp.1, bp.2 + off * c.sz)) else M.μ x, ins id (.recs c') (mapV (clrO (Nat.beq id)) M.H), M.w, M.free⟩ := by
    refine ⟨⟨rfl, rfl, rfl, Nat.le_refl _, Nat.le_refl _, fun k hk hl' => ⟨rfl, ?_⟩, fun _ h => h, fun _ h => .inl h⟩, fun x ox hx hl' => ?_⟩
    · rintro ⟨x, ox, q, h1, h2⟩
      obtain ⟨q0, h3, _⟩ := hμ x k q h2
      rcases hlook x ox h1 with ⟨rfl, rfl⟩ | ⟨_, o1, h4, _⟩
      · exact hl' ⟨(id, none), _, q0, h, h3⟩
      · exact hl' ⟨x, o1, q0, h4, h3⟩
    · have hxi : x.1 ≠ id := by
        intro e
        rw [e, beq_self] at hx
        cases hx
      refine ⟨clrO (Nat.beq id) ox, ?_, clrO_sz _ _, by rw [clrO_len]; exact Nat.le_refl _, if_neg hxi, fun b' q cur' e' hm hc' => ⟨cur', hc', rfl⟩⟩
      show lk (ins id (.recs c') (mapV (clrO (Nat.beq id)) M.H)) x = _
      rw [lk_ins_ne hxi]
      exact lk_clr_of hM.named hx hl'
  refine ⟨⟨(hM.named.clr _).insP rfl, fun k hk => ⟨(hM.fr k hk).1, (hext.still k (hM.fr k hk).1 (hM.fr k hk).2).2⟩, fun x y ox oy b' q r hx hy hmx hmy => ?_, fun x ox hx hm => ?_, fun x ox b' q hx hm => ?_⟩, hext⟩
  · obtain ⟨q0, m1, _⟩ := hμ x b' q hmx
    obtain ⟨r0, m2, _⟩ := hμ y b' r hmy
    have there : ∀ (x : Key) ox, lk (ins id (.recs c') (mapV (clrO (Nat.beq id)) M.H)) x = some ox → ∃ o1, lk M.H x = some o1 := by
      intro x ox hx
      rcases hlook x ox hx with ⟨rfl, _⟩ | ⟨_, o1, h4, _⟩
      · exact ⟨_, h⟩
      · exact ⟨o1, h4⟩
    obtain ⟨o1, h1⟩ := there x ox hx
    obtain ⟨o2, h2⟩ := there y oy hy
    exact hM.inj x y o1 o2 b' q0 r0 h1 h2 m1 m2
  · rcases hlook x ox hx with ⟨rfl, rfl⟩ | ⟨hxi, o1, h4, rfl⟩
    · simp only [if_pos, Option.map_eq_none_iff] at hm
      have h1 := hM.none_ (id, none) _ h hm
      have h2 : c.len = 0 := h1
      show c'.len = 0
      omega
    · simp only [if_neg hxi] at hm
      rw [clrO_len]; exact hM.none_ x o1 h4 hm
  · obtain ⟨q0, m1, m2, m3⟩ := hμ x b' q hm
    rcases hlook x ox hx with ⟨rfl, rfl⟩ | ⟨hxi, o1, h4, rfl⟩
    · obtain ⟨cur1, e1, g1, g2, g3⟩ := hM.obj (id, none) _ b' q0 h m1
      have hq := m2 rfl
      refine ⟨cur1, e1, g1, ?_, fun i hi j hj => ?_⟩
      · show q + c'.len * c'.sz ≤ cur1.size
        have g2' : q0 + c.len * c.sz ≤ cur1.size := g2
        rw [← hl, Nat.add_mul] at g2'
        rw [hz, hq]; omega
      · have hi' : i < c'.len := hi
        have hj' : j < c.sz := by rw [← hz]; exact hj
        have hoi : off + i < c.len := by omega
        obtain ⟨u, k1, k2, k3⟩ := g3 (off + i) hoi j hj'
        refine ⟨u, ?_, k2, ?_⟩
        · show cur1[q + (i * c'.sz + j)]? = some u
          rw [hz, hq]
          have : q0 + ((off + i) * (Obj.recs c).sz + j) = q0 + off * c.sz + (i * c.sz + j) := by
            show q0 + ((off + i) * c.sz + j) = _
            rw [Nat.add_mul]; omega
          rw [← this]; exact k1
        · show VR _ (c'.cell i j) u
          rw [hc i j hi' hj']
          have := VR_ext hext k3
          have hcl : clrV (Nat.beq id) ((Obj.recs c).cell (off + i) j) = c.cell (off + i) j := by
            have := clrO_cell (Nat.beq id) (.recs c) (off + i) j
            exact this.symm
          rw [hcl] at this
          exact this
    · obtain ⟨cur1, e1, g1, g2, g3⟩ := hM.obj x o1 b' q0 h4 m1
      have hq := m3 hxi
      subst hq
      refine ⟨cur1, e1, g1, by rw [clrO_len, clrO_sz]; exact g2, fun i hi j hj => ?_⟩
      rw [clrO_len] at hi
      rw [clrO_sz] at hj ⊢
      obtain ⟨u, k1, k2, k3⟩ := g3 i hi j hj
      exact ⟨u, k1, k2, by rw [clrO_cell]; exact VR_ext hext k3⟩

theorem awk_shiftR (id d off len : Nat) (c c' : C1) (s : St) (h : look id s.hp = some (.recs c)) (hd : look d s.tm = some (.one (.rw id off len))) (hb : big id = true) (hl : off + c'.len = c.len) (hz : c'.sz = c.sz) (hc : ∀ i j, i < c'.len → j < c.sz → c'.cell i j = c.cell (off + i) j) :
    AWk s ⟨s.n, ins d (.one (.rw id 0 len)) (mapV (clrA (Nat.beq id)) s.tm), ins id (.recs c') (mapV (clrO (Nat.beq id)) s.hp)⟩ := fun M a hr => by
  rw [← hr.hp] at h ⊢
  obtain ⟨h1, h2⟩ := MOk_shiftR hr.ok id off c c' h hl hz hc
  have h3 := hr.step rfl h1 h2
  refine ⟨_, ⟨rfl, h1, hr.defers, hr.size, fun e x he => ?_⟩, rfl, h2.mono (fun x hx => by have := Nat.eq_of_beq_eq_true hx; subst this; exact hb)⟩
  have he' : look e (ins d (.one (.rw id 0 len)) (mapV (clrA (Nat.beq id)) s.tm)) = some x := he
  rw [look_ins] at he'
  by_cases hed : e = d
  · rw [if_pos hed] at he'
    cases he'
    subst hed
    obtain ⟨u, hu, hv⟩ := hr.tm e _ hd
    refine ⟨u, hu, ?_⟩
    obtain ⟨o1, k1, k2, k3⟩ := hv
    rw [lk_none, h] at k1
    cases k1
    have k2' : off + len ≤ c.len := k2
    refine ⟨.recs c', lk_ins_self _ _ _, by show 0 + len ≤ c'.len; omega, ?_⟩
    rcases k3 with k3 | ⟨b, p, a0, cap, m1, m2, m3, m4, m5, cur, e0, m6, m7⟩
    · exact .inl k3
    · refine .inr ⟨b, p + off * c.sz, a0, cap, by simp [m1], m2, m3, m4, ?_, cur, e0, m6, ?_⟩
      · show a0 = p + off * c.sz + 0 * c'.sz
        rw [m5]; show p + off * c.sz = _; omega
      · show p + off * c.sz + (0 + cap) * c'.sz ≤ cur.size
        have m7' : p + (off + cap) * c.sz ≤ cur.size := m7
        rw [Nat.add_mul] at m7'
        rw [hz, Nat.zero_add]; omega
  · rw [if_neg hed] at he'
    exact h3.tm e x he'
/-- The contents from an element on. -/
theorem dropS_ok {xs : List Sta} {off : Nat} (h : off ≤ xs.length) : off + (C1.stas (xs.drop off)).len = (C1.stas xs).len ∧ ∀ i j, i < (C1.stas (xs.drop off)).len → j < (C1.stas xs).sz → (C1.stas (xs.drop off)).cell i j = (C1.stas xs).cell (off + i) j := by
  refine ⟨by simp only [C1.len, List.length_drop]; omega, fun i j _ _ => ?_⟩
  simp only [C1.cell]
  rw [List.getD_eq_getElem?_getD, List.getElem?_drop, ← List.getD_eq_getElem?_getD]
end Go.Ab
