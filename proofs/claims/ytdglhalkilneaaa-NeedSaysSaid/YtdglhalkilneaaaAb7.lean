/- The abstract machine, part 7: how the memory changes at a store, at a new block, at a block that is bound anew; loads and stores. -/
import Derived.Test.YtdglhalkilneaaaAb6
namespace Go.Ab

section
variable {M : Mem}

/-- A number is bound to a block: its own one, or a new one. What referred to it is forgotten. -/
theorem MOk_bind (hM : MOk M) (id : Nat) (o : Obj) (b p : Nat) (cur : Array Value) (e : TypeId) (w' : World)
    (hos : w'.os = M.w.os) (htape : w'.tape = M.w.tape) (hout : w'.output = M.w.output) (hsize : M.w.heap.size ≤ w'.heap.size)
    (hother : ∀ k, k < M.w.heap.size → k ≠ b → w'.heap[k]? = M.w.heap[k]?) (hb : w'.heap[b]? = some (.cells cur e (0, 0)))
    (hmine : ∀ y oy q, look y M.H = some oy → M.μ y = some (b, q) → y = id)
    (hown : M.w.heap.size ≤ b ∨ ∃ o0 q, look id M.H = some o0 ∧ M.μ id = some (b, q))
    (hfit : p + o.len * o.sz ≤ cur.size)
    (hc : ∀ i, i < o.len → ∀ j, j < o.sz → ∃ u, cur[p + (i * o.sz + j)]? = some u ∧ u.oneCell' = true ∧ VR M (o.cell i j) u) :
    MOk ⟨fun x => if x = id then some (b, p) else M.μ x, ins id (clrO (Nat.beq id) o) (mapV (clrO (Nat.beq id)) M.H), w', M.free⟩ ∧
    Ext (Nat.beq id) M ⟨fun x => if x = id then some (b, p) else M.μ x, ins id (clrO (Nat.beq id) o) (mapV (clrO (Nat.beq id)) M.H), w', M.free⟩ := by
  have hlook : ∀ x ox, x ≠ id → look x (ins id (clrO (Nat.beq id) o) (mapV (clrO (Nat.beq id)) M.H)) = some ox → ∃ o1, look x M.H = some o1 ∧ ox = clrO (Nat.beq id) o1 := by
    intro x ox hne h
    rw [look_ins, if_neg hne, look_mapV, Option.map_eq_some_iff] at h
    obtain ⟨o1, h1, rfl⟩ := h
    exact ⟨o1, h1, rfl⟩
  have hext : Ext (Nat.beq id) M ⟨fun x => if x = id then some (b, p) else M.μ x, ins id (clrO (Nat.beq id) o) (mapV (clrO (Nat.beq id)) M.H), w', M.free⟩ := by
    refine ⟨⟨hos, htape, hout, hsize, fun k hk hl => ?_, fun _ h => h, fun _ h => .inl h⟩, fun x ox hx hl => ?_⟩
    · have hkb : k ≠ b := by
        rintro rfl
        rcases hown with h | ⟨o0, q, h1, h2⟩
        · omega
        · exact hl ⟨id, o0, q, h1, h2⟩
      refine ⟨hother k hk hkb, ?_⟩
      rintro ⟨x, ox, q, h1, h2⟩
      by_cases hxi : x = id
      · subst hxi
        simp only [if_true, Option.some.injEq, Prod.mk.injEq] at h2
        exact hkb h2.1.symm
      · simp only [if_neg hxi] at h2
        obtain ⟨o1, h3, _⟩ := hlook x ox hxi h1
        exact hl ⟨x, o1, q, h3, h2⟩
    · have hxi : x ≠ id := by
        rintro rfl
        rw [beq_self] at hx
        cases hx
      refine ⟨clrO (Nat.beq id) ox, ?_, clrO_sz _ _, by rw [clrO_len]; exact Nat.le_refl _, by simp only [if_neg hxi], fun b' q cur' e' hm hc' => ?_⟩
      · show look x (ins id (clrO (Nat.beq id) o) (mapV (clrO (Nat.beq id)) M.H)) = _
        rw [look_ins, if_neg hxi, look_mapV, hl]; rfl
      · have hbb : b' ≠ b := by
          rintro rfl
          exact hxi (hmine x ox q hl hm)
        have hlt : b' < M.w.heap.size := (Array.getElem?_eq_some_iff.1 hc').1
        exact ⟨cur', (hother b' hlt hbb).trans hc', rfl⟩
  refine ⟨⟨fun k hk => ⟨Nat.lt_of_lt_of_le (hM.fr k hk).1 hext.size, (hext.still k (hM.fr k hk).1 (hM.fr k hk).2).2⟩, fun x y ox oy b' q r hx hy hmx hmy => ?_, fun x ox hx hm => ?_, fun x ox b' q hx hm => ?_⟩, hext⟩
  · by_cases hxi : x = id <;> by_cases hyi : y = id
    · rw [hxi, hyi]
    · simp only [if_pos hxi, if_neg hyi, Option.some.injEq, Prod.mk.injEq] at hmx hmy
      obtain ⟨o1, h1, _⟩ := hlook y oy hyi hy
      rw [← hmx.1] at hmy
      exact absurd (hmine y o1 r h1 hmy) hyi
    · simp only [if_neg hxi, if_pos hyi, Option.some.injEq, Prod.mk.injEq] at hmx hmy
      obtain ⟨o1, h1, _⟩ := hlook x ox hxi hx
      rw [← hmy.1] at hmx
      exact absurd (hmine x o1 q h1 hmx) hxi
    · simp only [if_neg hxi, if_neg hyi] at hmx hmy
      obtain ⟨o1, h1, _⟩ := hlook x ox hxi hx
      obtain ⟨o2, h2, _⟩ := hlook y oy hyi hy
      exact hM.inj x y o1 o2 b' q r h1 h2 hmx hmy
  · by_cases hxi : x = id
    · simp only [if_pos hxi] at hm; cases hm
    · simp only [if_neg hxi] at hm
      obtain ⟨o1, h1, rfl⟩ := hlook x ox hxi hx
      rw [clrO_len]
      exact hM.none_ x o1 h1 hm
  · by_cases hxi : x = id
    · subst hxi
      simp only [if_true, Option.some.injEq, Prod.mk.injEq] at hm
      obtain ⟨rfl, rfl⟩ := hm
      have hx' : look x (ins x (clrO (Nat.beq x) o) (mapV (clrO (Nat.beq x)) M.H)) = some ox := hx
      rw [look_ins, if_pos rfl] at hx'
      cases hx'
      refine ⟨cur, e, hb, by rw [clrO_len, clrO_sz]; exact hfit, fun i hi j hj => ?_⟩
      rw [clrO_len] at hi
      rw [clrO_sz] at hj ⊢
      obtain ⟨u, h1, h2, h3⟩ := hc i hi j hj
      refine ⟨u, h1, h2, ?_⟩
      rw [clrO_cell]
      exact VR_ext hext h3
    · simp only [if_neg hxi] at hm
      obtain ⟨o1, h1, rfl⟩ := hlook x ox hxi hx
      obtain ⟨cur1, e1, g1, g2, g3⟩ := hM.obj x o1 b' q h1 hm
      have hbb : b' ≠ b := by
        rintro rfl
        exact hxi (hmine x o1 q h1 hm)
      refine ⟨cur1, e1, (hother b' (Array.getElem?_eq_some_iff.1 g1).1 hbb).trans g1, by rw [clrO_len, clrO_sz]; exact g2, fun i hi j hj => ?_⟩
      rw [clrO_len] at hi
      rw [clrO_sz] at hj ⊢
      obtain ⟨u, k1, k2, k3⟩ := g3 i hi j hj
      refine ⟨u, k1, k2, ?_⟩
      rw [clrO_cell]
      exact VR_ext hext k3

/-- A number is bound to no block: an empty slice. -/
theorem MOk_free (hM : MOk M) (id : Nat) (o : Obj) (ho : o.len = 0) :
    MOk ⟨fun x => if x = id then none else M.μ x, ins id o (mapV (clrO (Nat.beq id)) M.H), M.w, M.free⟩ ∧
    Ext (Nat.beq id) M ⟨fun x => if x = id then none else M.μ x, ins id o (mapV (clrO (Nat.beq id)) M.H), M.w, M.free⟩ := by
  have hlook : ∀ x ox, x ≠ id → look x (ins id o (mapV (clrO (Nat.beq id)) M.H)) = some ox → ∃ o1, look x M.H = some o1 ∧ ox = clrO (Nat.beq id) o1 := by
    intro x ox hne h
    rw [look_ins, if_neg hne, look_mapV, Option.map_eq_some_iff] at h
    obtain ⟨o1, h1, rfl⟩ := h
    exact ⟨o1, h1, rfl⟩
  have hext : Ext (Nat.beq id) M ⟨fun x => if x = id then none else M.μ x, ins id o (mapV (clrO (Nat.beq id)) M.H), M.w, M.free⟩ := by
    refine ⟨⟨rfl, rfl, rfl, Nat.le_refl _, fun k hk hl => ⟨rfl, ?_⟩, fun _ h => h, fun _ h => .inl h⟩, fun x ox hx hl => ?_⟩
    · rintro ⟨x, ox, q, h1, h2⟩
      by_cases hxi : x = id
      · simp only [if_pos hxi] at h2; cases h2
      · simp only [if_neg hxi] at h2
        obtain ⟨o1, h3, _⟩ := hlook x ox hxi h1
        exact hl ⟨x, o1, q, h3, h2⟩
    · have hxi : x ≠ id := by
        rintro rfl
        rw [beq_self] at hx
        cases hx
      refine ⟨clrO (Nat.beq id) ox, ?_, clrO_sz _ _, by rw [clrO_len]; exact Nat.le_refl _, by simp only [if_neg hxi], fun b' q cur' e' hm hc' => ⟨cur', hc', rfl⟩⟩
      show look x (ins id o (mapV (clrO (Nat.beq id)) M.H)) = _
      rw [look_ins, if_neg hxi, look_mapV, hl]; rfl
  refine ⟨⟨fun k hk => ⟨Nat.lt_of_lt_of_le (hM.fr k hk).1 hext.size, (hext.still k (hM.fr k hk).1 (hM.fr k hk).2).2⟩, fun x y ox oy b' q r hx hy hmx hmy => ?_, fun x ox hx hm => ?_, fun x ox b' q hx hm => ?_⟩, hext⟩
  · by_cases hxi : x = id
    · simp only [if_pos hxi] at hmx; cases hmx
    · by_cases hyi : y = id
      · simp only [if_pos hyi] at hmy; cases hmy
      · simp only [if_neg hxi, if_neg hyi] at hmx hmy
        obtain ⟨o1, h1, _⟩ := hlook x ox hxi hx
        obtain ⟨o2, h2, _⟩ := hlook y oy hyi hy
        exact hM.inj x y o1 o2 b' q r h1 h2 hmx hmy
  · by_cases hxi : x = id
    · subst hxi
      have hx' : look x (ins x o (mapV (clrO (Nat.beq x)) M.H)) = some ox := hx
      rw [look_ins, if_pos rfl] at hx'
      cases hx'
      exact ho
    · simp only [if_neg hxi] at hm
      obtain ⟨o1, h1, rfl⟩ := hlook x ox hxi hx
      rw [clrO_len]
      exact hM.none_ x o1 h1 hm
  · by_cases hxi : x = id
    · simp only [if_pos hxi] at hm; cases hm
    · simp only [if_neg hxi] at hm
      obtain ⟨o1, h1, rfl⟩ := hlook x ox hxi hx
      obtain ⟨cur1, e1, g1, g2, g3⟩ := hM.obj x o1 b' q h1 hm
      refine ⟨cur1, e1, g1, by rw [clrO_len, clrO_sz]; exact g2, fun i hi j hj => ?_⟩
      rw [clrO_len] at hi
      rw [clrO_sz] at hj ⊢
      obtain ⟨u, k1, k2, k3⟩ := g3 i hi j hj
      refine ⟨u, k1, k2, ?_⟩
      rw [clrO_cell]
      exact VR_ext hext k3

theorem splice_at (cur : List Value) (us : List Value) (x k : Nat) (h : x + us.length ≤ cur.length) :
    (cur.take x ++ us ++ cur.drop (x + us.length))[k]? = if x ≤ k ∧ k < x + us.length then us[k - x]? else cur[k]? := by
  have hlen : (cur.take x).length = x := by rw [List.length_take]; omega
  by_cases h1 : k < x
  · rw [if_neg (by omega), List.append_assoc, List.getElem?_append_left (by rw [hlen]; exact h1), List.getElem?_take, if_pos h1]
  · by_cases h2 : k < x + us.length
    · rw [if_pos (by omega), List.append_assoc, List.getElem?_append_right (by rw [hlen]; omega), List.getElem?_append_left (by rw [hlen]; omega), hlen]
    · rw [if_neg (by omega), List.getElem?_append_right (by simp only [List.length_append, hlen]; omega), List.getElem?_drop]
      simp only [List.length_append, hlen]
      congr 1
      omega

/-- A store into a block of the call's own. -/
theorem MOk_store (hM : MOk M) {id i j b p : Nat} {o o' : Obj} {vs : List V1} {us : List Value} {cur : Array Value} {e : TypeId} (hl : look id M.H = some o) (hμ : M.μ id = some (b, p)) (hi : i < o.len)
    (hp : PutOk o.len o.sz o'.len o'.sz o.cell o'.cell i j vs) (hlen : us.length = vs.length)
    (hvs : ∀ (d : Nat) (v : V1), vs[d]? = some v → ∃ u, us[d]? = some u ∧ u.oneCell' = true ∧ VR M v u) (hcur : M.w.heap[b]? = some (.cells cur e (0, 0))) :
    p + (i * o.sz + j) + us.length ≤ cur.size ∧
    MOk ⟨M.μ, ins id o' M.H, M.w.setRow b (cur.toList.take (p + (i * o.sz + j)) ++ us ++ cur.toList.drop (p + (i * o.sz + j) + us.length)).toArray, M.free⟩ ∧
    Ext noX M ⟨M.μ, ins id o' M.H, M.w.setRow b (cur.toList.take (p + (i * o.sz + j)) ++ us ++ cur.toList.drop (p + (i * o.sz + j) + us.length)).toArray, M.free⟩ := by
  obtain ⟨cur0, e0, g1, g2, g3⟩ := hM.obj id o b p hl hμ
  rw [hcur] at g1
  simp only [Option.some.injEq, Obj.cells.injEq] at g1
  obtain ⟨rfl, rfl, _⟩ := g1
  have hin : (i + 1) * o.sz ≤ o.len * o.sz := Nat.mul_le_mul_right _ hi
  rw [Nat.add_mul, Nat.one_mul] at hin
  have hpf := hp.fit
  have hfit : p + (i * o.sz + j) + us.length ≤ cur.size := by omega
  refine ⟨hfit, ?_⟩
  have hlook : ∀ x ox, look x (ins id o' M.H) = some ox → ∃ o1, look x M.H = some o1 := by
    intro x ox h
    rw [look_ins] at h
    split at h
    · rename_i hx; subst hx; exact ⟨o, hl⟩
    · exact ⟨ox, h⟩
  have hne : ∀ x o1 b' q, look x M.H = some o1 → M.μ x = some (b', q) → x ≠ id → b' ≠ b := by
    rintro x o1 b' q h1 h2 hx rfl
    exact hx (hM.inj x id o1 o b' q p h1 hl h2 hμ)
  have hext : Ext noX M ⟨M.μ, ins id o' M.H, M.w.setRow b (cur.toList.take (p + (i * o.sz + j)) ++ us ++ cur.toList.drop (p + (i * o.sz + j) + us.length)).toArray, M.free⟩ := by
    refine ⟨⟨rfl, rfl, rfl, by simp, fun k hk hlv => ⟨setRow_other _ _ _ _ (by rintro rfl; exact hlv ⟨id, o, p, hl, hμ⟩), ?_⟩, fun _ h => h, fun _ h => .inl h⟩, fun x ox _ hx => ?_⟩
    · rintro ⟨x, ox, q, h1, h2⟩
      obtain ⟨o1, h3⟩ := hlook x ox h1
      exact hlv ⟨x, o1, q, h3, h2⟩
    · by_cases hxi : x = id
      · subst hxi
        rw [hl] at hx
        cases hx
        refine ⟨o', by show look x (ins x o' M.H) = _; rw [look_ins, if_pos rfl], hp.sz, by rw [hp.len]; exact Nat.le_refl _, rfl, fun b' q cur' e' hm hc' => ?_⟩
        rw [hμ] at hm
        cases hm
        rw [hcur] at hc'
        cases hc'
        exact ⟨_, setRow_heap _ _ _ _ _ _ hcur, by simp; omega⟩
      · refine ⟨ox, by show look x (ins id o' M.H) = _; rw [look_ins, if_neg hxi]; exact hx, rfl, Nat.le_refl _, rfl, fun b' q cur' e' hm hc' => ?_⟩
        exact ⟨cur', (setRow_other _ _ _ _ (hne x ox b' q hx hm hxi)).trans hc', rfl⟩
  refine ⟨⟨fun k hk => ⟨Nat.lt_of_lt_of_le (hM.fr k hk).1 hext.size, (hext.still k (hM.fr k hk).1 (hM.fr k hk).2).2⟩, fun x y ox oy b' q r hx hy hmx hmy => ?_, fun x ox hx hm => ?_, fun x ox b' q hx hm => ?_⟩, hext⟩
  · obtain ⟨o1, h1⟩ := hlook x ox hx
    obtain ⟨o2, h2⟩ := hlook y oy hy
    exact hM.inj x y o1 o2 b' q r h1 h2 hmx hmy
  · have hx' : look x (ins id o' M.H) = some ox := hx
    rw [look_ins] at hx'
    split at hx'
    · rename_i hxi
      subst hxi
      have hm' : M.μ x = none := hm
      rw [hμ] at hm'
      cases hm'
    · exact hM.none_ x ox hx' hm
  · have hx' : look x (ins id o' M.H) = some ox := hx
    have hm' : M.μ x = some (b', q) := hm
    rw [look_ins] at hx'
    split at hx'
    · rename_i hxi
      subst hxi
      cases hx'
      rw [hμ] at hm'
      cases hm'
      refine ⟨_, e, setRow_heap _ _ _ _ _ _ hcur, by rw [hp.len, hp.sz]; simp; omega, fun i' hi' j' hj' => ?_⟩
      rw [hp.len] at hi'
      rw [hp.sz] at hj' ⊢
      rw [List.getElem?_toArray, splice_at _ _ _ _ (by simpa using hfit)]
      by_cases hin' : i' = i ∧ j ≤ j' ∧ j' < j + vs.length
      · obtain ⟨rfl, h1, h2⟩ := hin'
        rw [if_pos (by omega)]
        have hd : j' - j < vs.length := by omega
        obtain ⟨u, hu, h1c, hv⟩ := hvs (j' - j) _ (List.getElem?_eq_getElem hd)
        have he : p + (i' * o.sz + j') - (p + (i' * o.sz + j)) = j' - j := by omega
        rw [he]
        refine ⟨u, hu, h1c, ?_⟩
        have := hp.new (j' - j) _ (List.getElem?_eq_getElem hd)
        rw [show j + (j' - j) = j' from by omega] at this
        rw [this]
        exact VR_ext0 hext hv
      · rw [if_neg (by
          have := idx_ne (sz := o.sz) (i := i) (i' := i') (j := j) (j' := j') hp.fit hj' hin'
          omega)]
        obtain ⟨u, h1, h2, h3⟩ := g3 i' hi' j' hj'
        refine ⟨u, by simpa using h1, h2, ?_⟩
        rw [hp.old i' j' hi' hj' hin']
        exact VR_ext0 hext h3
    · rename_i hxi
      obtain ⟨cur1, e1, k1, k2, k3⟩ := hM.obj x ox b' q hx' hm'
      refine ⟨cur1, e1, (setRow_other _ _ _ _ (hne x ox b' q hx' hm' hxi)).trans k1, k2, fun i' hi' j' hj' => ?_⟩
      obtain ⟨u, h1, h2, h3⟩ := k3 i' hi' j' hj'
      exact ⟨u, h1, h2, VR_ext0 hext h3⟩

end

/-! ### Loads -/
/-- What a pointer points into. -/
def ptrInto (H : Heap) : V1 → Option (Bool × Nat × Nat × (Nat → Nat → V1) × Nat × Nat)
  | .ptr id i j => (match look id H with | some o => some (true, o.len, o.sz, o.cell, i, j) | none => none)
  | .rp c i j => some (false, c.len, c.sz, c.cell, i, j)
  | .rq c i j => some (false, c.len, c.sz, c.cell, i, j)
  | _ => none

theorem ptrInto_sound {M : Mem} (hM : MOk M) {v : V1} {u : Value} {own : Bool} {n z i j : Nat} {f : Nat → Nat → V1} (h : ptrInto M.H v = some (own, n, z, f, i, j)) (hv : VR M v u) :
    (own = false → i < n ∧ j < z) ∧ ∃ b p, u = .pointer (some ⟨b, p + (i * z + j), none⟩) ∧ ∀ i' j', i' < n → j' < z → ∃ c, M.w.cell? ⟨b, p + (i' * z + j'), none⟩ = some c ∧ c.oneCell' = true ∧ VR M (f i' j') c := by
  cases v <;> simp only [ptrInto] at h <;> first | (cases h; done) | skip
  case ptr id i0 j0 =>
    split at h
    · rename_i o ho
      simp only [Option.some.injEq, Prod.mk.injEq] at h
      obtain ⟨rfl, rfl, rfl, rfl, rfl, rfl⟩ := h
      obtain ⟨o', b, p, ho', hm, rfl⟩ := hv
      rw [ho] at ho'
      cases ho'
      refine ⟨fun h => (by cases h), b, p, rfl, fun i' j' hi hj => ?_⟩
      obtain ⟨cur, e, h1, _, h3⟩ := hM.obj id o b p ho hm
      obtain ⟨c, hc1, hc2, hc3⟩ := h3 i' hi j' hj
      exact ⟨c, (cell_of_row _ _ _ _ _ _ h1).trans hc1, hc2, hc3⟩
    · cases h
  case rp c i0 j0 =>
    simp only [Option.some.injEq, Prod.mk.injEq] at h
    obtain ⟨rfl, rfl, rfl, rfl, rfl, rfl⟩ := h
    obtain ⟨h1, h2, b, p, rfl, hr⟩ := hv
    refine ⟨fun _ => ⟨h1, h2⟩, b, p, rfl, fun i' j' hi hj => ?_⟩
    obtain ⟨u, hu, hb⟩ := hr.2 i' hi j' hj
    exact ⟨u, hu, VR_oneCell (M := M) (C0_cell_VR hb), C0_cell_VR hb⟩
  case rq c i0 j0 =>
    simp only [Option.some.injEq, Prod.mk.injEq] at h
    obtain ⟨rfl, rfl, rfl, rfl, rfl, rfl⟩ := h
    obtain ⟨h1, h2, b, p, rfl, hr⟩ := hv
    refine ⟨fun _ => ⟨h1, h2⟩, b, p, rfl, fun i' j' hi hj => ?_⟩
    obtain ⟨u, hu, hb⟩ := hr.2 i' hi j' hj
    exact ⟨u, hu, VR_oneCell (M := M) (C1_cell_VR hb), C1_cell_VR hb⟩

/-- Some cells in a row: of one element, or, where an element is one cell, of several. -/
def readA (f : Nat → Nat → V1) (i j : Nat) (wide : Bool) : Nat → Nat → List V1
  | 0, _ => []
  | m + 1, d => cond wide (f (i + d) j) (f i (j + d)) :: readA f i j wide m (d + 1)
theorem readA_len (f : Nat → Nat → V1) (i j : Nat) (wide : Bool) : ∀ m d, (readA f i j wide m d).length = m
  | 0, _ => rfl
  | m + 1, d => by simp [readA, readA_len f i j wide m]
theorem readA_at (f : Nat → Nat → V1) (i j : Nat) (wide : Bool) : ∀ m d k, k < m → (readA f i j wide m d)[k]? = some (cond wide (f (i + (d + k)) j) (f i (j + (d + k))))
  | 0, _, _, h => by omega
  | m + 1, d, 0, _ => by simp [readA]
  | m + 1, d, k + 1, h => by
    simp only [readA, List.getElem?_cons_succ]
    rw [readA_at f i j wide m (d + 1) k (by omega)]
    have : d + 1 + k = d + (k + 1) := by omega
    rw [this]

/-- A load: what it owes, and its value. -/
def stLoad (T : Nat → Option TI) (H : Heap) (t : TypeId) : AV → SR
  | .one v =>
    (match T t, ptrInto H v with
    | some ti, some (own, n, z, f, i, j) =>
      cond ti.kind.agg
        (cond (Nat.beq z 1)
          (some ([i + ti.sz ≤ n, j = 0], .agg (readA f i j true ti.sz 0)))
          (cond (Nat.ble (j + ti.sz) z) (some (cond own [i < n] [], .agg (readA f i j false ti.sz 0))) none))
        (cond (Nat.ble (j + 1) z) (some (cond own [i < n] [], .one (f i j))) none)
    | _, _ => none)
  | _ => none

theorem stLoad_sound {P : Program} {T : Nat → Option TI} {M : Mem} {t : TypeId} {a v : AV} {ua : Value} {cs : List Prop} (hT : ∀ t i, T t = some i → TF P t i) (hM : MOk M) (h : stLoad T M.H t a = some (cs, v)) (ha : AVR M a ua)
    (hc : AllP cs) : ∃ u, (Instr.loadAt t ua).run P M.w = .ok u M.w ∧ AVR M v u := by
  unfold stLoad at h
  split at h
  · rename_i v0
    split at h
    · rename_i ti own n z f i j hti hin
      have hF := hT _ _ hti
      obtain ⟨hro, b, p, rfl, hcell⟩ := ptrInto_sound hM hin ha
      have hag := isAgg_run hF.kind M.w
      cases hk : ti.kind.agg
      · rw [hk] at h hag
        simp only [cond_false] at h
        cases hj : Nat.ble (j + 1) z
        · rw [hj] at h; cases h
        · rw [hj] at h
          have hj' := Nat.le_of_ble_eq_true hj
          simp only [cond_true, Option.some.injEq, Prod.mk.injEq] at h
          obtain ⟨rfl, rfl⟩ := h
          have hi : i < n := by
            cases own
            · exact (hro rfl).1
            · exact hc.1
          obtain ⟨c, h1, _, h3⟩ := hcell i j hi (by omega)
          exact ⟨c, by simp [Instr.loadAt, Instr.sureAddr, loadVar, hag, h1], h3⟩
      · rw [hk] at h hag
        simp only [cond_true] at h
        have fin : ∀ wide, (∀ d, d < ti.sz → ∃ c, M.w.cell? ⟨b, p + (i * z + j) + d, none⟩ = some c ∧ VR M (cond wide (f (i + (0 + d)) j) (f i (j + (0 + d)))) c) →
            ∃ u, (Instr.loadAt t (.pointer (some ⟨b, p + (i * z + j), none⟩))).run P M.w = .ok u M.w ∧ AVR M (.agg (readA f i j wide ti.sz 0)) u := by
          intro wide hd
          let g : Nat → Value := fun d => (M.w.cell? ⟨b, p + (i * z + j) + d, none⟩).getD undef
          have hg : ∀ d, d < ti.sz → M.w.cell? ((⟨b, p + (i * z + j), none⟩ : Addr).add d) = some (g d) := by
            intro d hd'
            obtain ⟨c, h1, _⟩ := hd d hd'
            rw [ptr_add]
            simp only [g, h1, Option.getD_some]
          have hr := run_loadCells (P := P) M.w ⟨b, p + (i * z + j), none⟩ ti.sz g hg
          refine ⟨_, by simp only [Instr.loadAt, Instr.sureAddr, loadVar, Sem.run_bind, Sem.run_pure, Result.andThen_ok, Sem.run_ite, hag, if_true, sizeOf_run hF, hr]; rfl, _, rfl, by simp [readA_len], fun k v hk => ?_⟩
          have hkl : k < ti.sz := by
            have := (List.getElem?_eq_some_iff.1 hk).1
            rwa [readA_len] at this
          rw [readA_at _ _ _ _ _ _ _ hkl] at hk
          cases hk
          obtain ⟨c, h1, h2⟩ := hd k hkl
          refine ⟨c, ?_, h2⟩
          have : g k = c := by simp only [g, h1, Option.getD_some]
          simp [hkl, this]
        cases hz : Nat.beq z 1
        · rw [hz] at h
          simp only [cond_false] at h
          cases hj : Nat.ble (j + ti.sz) z
          · rw [hj] at h; cases h
          · rw [hj] at h
            have hj' := Nat.le_of_ble_eq_true hj
            simp only [cond_true, Option.some.injEq, Prod.mk.injEq] at h
            obtain ⟨rfl, rfl⟩ := h
            have hi : i < n := by
              cases own
              · exact (hro rfl).1
              · exact hc.1
            refine fin false fun d hd => ?_
            obtain ⟨c, h1, _, h3⟩ := hcell i (j + d) hi (by omega)
            refine ⟨c, by rw [← h1]; congr 2; omega, ?_⟩
            rw [Nat.zero_add]
            exact h3
        · rw [hz] at h
          have hz' := Nat.eq_of_beq_eq_true hz
          simp only [cond_true, Option.some.injEq, Prod.mk.injEq] at h
          obtain ⟨rfl, rfl⟩ := h
          obtain ⟨h1, h2, _⟩ := hc
          subst h2
          refine fin true fun d hd => ?_
          obtain ⟨c, g1, _, g3⟩ := hcell (i + d) 0 (by omega) (by omega)
          refine ⟨c, by rw [← g1]; congr 2; rw [hz']; omega, ?_⟩
          rw [Nat.zero_add]
          exact g3
    · cases h
  · cases h

end Go.Ab
