/- The abstract machine: a block of the call's own, led to by one pointer, is looked at in another shape (an array as one value, or element by element). -/
import Derived.Test.YtcmaffldmodacaaDag
namespace Go.Ab
open Go
theorem MOk_shape {M : Mem} (hM : MOk M) (id : Nat) (o o' : Obj) (h : look id M.H = some o) (hn : o.len = 0 → o'.len = 0) (hz : o'.len * o'.sz = o.len * o.sz) (hpl : o'.plain = true)
    (hc : ∀ i j, i < o'.len → j < o'.sz → ∃ i2 j2, i2 < o.len ∧ j2 < o.sz ∧ i2 * o.sz + j2 = i * o'.sz + j ∧ o'.cell i j = clrV (Nat.beq id) (o.cell i2 j2)) :
    MOk ⟨M.μ, ins id o' (mapV (clrO (Nat.beq id)) M.H), M.w, M.free⟩ ∧ Ext (Nat.beq id) M ⟨M.μ, ins id o' (mapV (clrO (Nat.beq id)) M.H), M.w, M.free⟩ := by
  have hlook : ∀ (x : Key) ox, lk (ins id o' (mapV (clrO (Nat.beq id)) M.H)) x = some ox → (x = (id, none) ∧ ox = o') ∨ (x.1 ≠ id ∧ ∃ o1, lk M.H x = some o1 ∧ ox = clrO (Nat.beq id) o1) := by
    intro x ox hx
    by_cases hxi : x.1 = id
    · obtain ⟨x1, r⟩ := x
      simp only at hxi
      subst hxi
      cases r with
      | none =>
        rw [lk_ins_self] at hx
        cases hx
        exact .inl ⟨rfl, rfl⟩
      | some i => rw [lk_ins_row hpl] at hx; cases hx
    · rw [lk_ins_ne hxi] at hx
      obtain ⟨o1, h1, rfl⟩ := lk_clr hx
      exact .inr ⟨hxi, o1, h1, rfl⟩
  have there : ∀ (x : Key) ox, lk (ins id o' (mapV (clrO (Nat.beq id)) M.H)) x = some ox → ∃ o1, lk M.H x = some o1 := by
    intro x ox hx
    rcases hlook x ox hx with ⟨rfl, _⟩ | ⟨_, o1, h4, _⟩
    · exact ⟨_, h⟩
    · exact ⟨o1, h4⟩
  have hext : Ext (Nat.beq id) M ⟨M.μ, ins id o' (mapV (clrO (Nat.beq id)) M.H), M.w, M.free⟩ := by
    refine ⟨⟨rfl, rfl, rfl, Nat.le_refl _, Nat.le_refl _, fun k hk hl => ⟨rfl, ?_⟩, fun _ h => h, fun _ h => .inl h⟩, fun x ox hx hl => ?_⟩
    · rintro ⟨x, ox, q, h1, h2⟩
      obtain ⟨o1, h3⟩ := there x ox h1
      exact hl ⟨x, o1, q, h3, h2⟩
    · have hxi : x.1 ≠ id := by
        intro e
        rw [e, beq_self] at hx
        cases hx
      refine ⟨clrO (Nat.beq id) ox, ?_, clrO_sz _ _, by rw [clrO_len]; exact Nat.le_refl _, rfl, fun b' q cur' e' hm hc' => ⟨cur', hc', rfl⟩⟩
      show lk (ins id o' (mapV (clrO (Nat.beq id)) M.H)) x = _
      rw [lk_ins_ne hxi]
      exact lk_clr_of hM.named hx hl
  refine ⟨⟨(hM.named.clr _).insP hpl, fun k hk => ⟨(hM.fr k hk).1, (hext.still k (hM.fr k hk).1 (hM.fr k hk).2).2⟩, fun x y ox oy b' q r hx hy hmx hmy => ?_, fun x ox hx hm => ?_, fun x ox b' q hx hm => ?_⟩, hext⟩
  · obtain ⟨o1, h1⟩ := there x ox hx
    obtain ⟨o2, h2⟩ := there y oy hy
    exact hM.inj x y o1 o2 b' q r h1 h2 hmx hmy
  · rcases hlook x ox hx with ⟨rfl, rfl⟩ | ⟨_, o1, h4, rfl⟩
    · exact hn (hM.none_ (id, none) _ h hm)
    · rw [clrO_len]; exact hM.none_ x o1 h4 hm
  · rcases hlook x ox hx with ⟨rfl, rfl⟩ | ⟨_, o1, h4, rfl⟩
    · obtain ⟨cur1, e1, g1, g2, g3⟩ := hM.obj (id, none) _ b' q h hm
      refine ⟨cur1, e1, g1, by rw [hz]; exact g2, fun i hi j hj => ?_⟩
      obtain ⟨i2, j2, k1, k2, k3, k4⟩ := hc i j hi hj
      obtain ⟨u, k5, k6, k7⟩ := g3 i2 k1 j2 k2
      exact ⟨u, by rw [← k3]; exact k5, k6, by rw [k4]; exact VR_ext hext k7⟩
    · obtain ⟨cur1, e1, g1, g2, g3⟩ := hM.obj x o1 b' q h4 hm
      refine ⟨cur1, e1, g1, by rw [clrO_len, clrO_sz]; exact g2, fun i hi j hj => ?_⟩
      rw [clrO_len] at hi
      rw [clrO_sz] at hj ⊢
      obtain ⟨u, k1, k2, k3⟩ := g3 i hi j hj
      exact ⟨u, k1, k2, by rw [clrO_cell]; exact VR_ext hext k3⟩
theorem awk_shape (id d : Nat) (o o' : Obj) (s : St) (h : look id s.hp = some o) (hd : look d s.tm = some (.one (.ptr id 0 0))) (hb : big id = true) (hn : o.len = 0 → o'.len = 0) (hz : o'.len * o'.sz = o.len * o.sz)
    (hc : ∀ i j, i < o'.len → j < o'.sz → ∃ i2 j2, i2 < o.len ∧ j2 < o.sz ∧ i2 * o.sz + j2 = i * o'.sz + j ∧ o'.cell i j = clrV (Nat.beq id) (o.cell i2 j2)) (hpl : o'.plain = true := by rfl) :
    AWk s ⟨s.n, ins d (.one (.ptr id 0 0)) (mapV (clrA (Nat.beq id)) s.tm), ins id o' (mapV (clrO (Nat.beq id)) s.hp)⟩ := fun M a hr => by
  rw [← hr.hp] at h ⊢
  obtain ⟨h1, h2⟩ := MOk_shape hr.ok id o o' h hn hz hpl hc
  have h3 := hr.step rfl h1 h2
  refine ⟨_, ⟨rfl, h1, hr.defers, hr.size, fun e x he => ?_⟩, rfl, h2.mono (fun x hx => by have := Nat.eq_of_beq_eq_true hx; subst this; exact hb)⟩
  have he' : look e (ins d (.one (.ptr id 0 0)) (mapV (clrA (Nat.beq id)) s.tm)) = some x := he
  rw [look_ins] at he'
  by_cases hed : e = d
  · rw [if_pos hed] at he'
    cases he'
    subst hed
    obtain ⟨u, hu, hv⟩ := hr.tm e _ hd
    refine ⟨u, hu, ?_⟩
    obtain ⟨o1, b, p, k1, k2, k3⟩ := hv
    refine ⟨o', b, p, lk_ins_self _ _ _, k2, ?_⟩
    rw [k3]; simp
  · rw [if_neg hed] at he'
    exact h3.tm e x he'
theorem shape_box {id : Nat} {k : IntKind} {xs : List Int} {n : Nat} {vs : List V1} (hl : xs.length = n) (hv : vs = xs.map fun x => .int k x) :
    ∀ i j, i < (Obj.box 1 n vs).len → j < (Obj.box 1 n vs).sz → ∃ i2 j2, i2 < (Obj.flat (.ints k xs)).len ∧ j2 < (Obj.flat (.ints k xs)).sz ∧ i2 * (Obj.flat (.ints k xs)).sz + j2 = i * (Obj.box 1 n vs).sz + j ∧ (Obj.box 1 n vs).cell i j = clrV (Nat.beq id) ((Obj.flat (.ints k xs)).cell i2 j2) := fun i j hi hj => by
  have hi' : i < 1 := hi
  have hj' : j < n := hj
  obtain rfl : i = 0 := by omega
  refine ⟨j, 0, by show j < xs.length; omega, by show 0 < 1; omega, by show j * 1 + 0 = 0 * n + j; omega, ?_⟩
  subst hv
  simp only [Obj.cell, C0.cell, clrV, List.getD_eq_getElem?_getD]
  rw [Nat.zero_mul, Nat.zero_add, List.getElem?_map, List.getElem?_eq_getElem (by omega)]
  rfl
theorem shape_flat {id : Nat} {k : IntKind} {xs : List Int} {n : Nat} {vs : List V1} (hl : xs.length = n) (hv : vs = xs.map fun x => .int k x) :
    ∀ i j, i < (Obj.flat (.ints k xs)).len → j < (Obj.flat (.ints k xs)).sz → ∃ i2 j2, i2 < (Obj.box 1 n vs).len ∧ j2 < (Obj.box 1 n vs).sz ∧ i2 * (Obj.box 1 n vs).sz + j2 = i * (Obj.flat (.ints k xs)).sz + j ∧ (Obj.flat (.ints k xs)).cell i j = clrV (Nat.beq id) ((Obj.box 1 n vs).cell i2 j2) := fun i j hi hj => by
  have hi' : i < xs.length := hi
  have hj' : j < 1 := hj
  obtain rfl : j = 0 := by omega
  refine ⟨0, i, by show 0 < 1; omega, by show i < n; omega, by show 0 * n + i = i * 1 + 0; omega, ?_⟩
  subst hv
  simp only [Obj.cell, C0.cell, List.getD_eq_getElem?_getD]
  rw [Nat.zero_mul, Nat.zero_add, List.getElem?_map, List.getElem?_eq_getElem hi']
  rfl
end Go.Ab
