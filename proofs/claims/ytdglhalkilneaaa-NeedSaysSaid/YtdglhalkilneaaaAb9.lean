/- The abstract machine, part 9: slice literals and append; the step that may change the memory is sound. -/
import Derived.Test.YtdglhalkilneaaaAb8
namespace Go.Ab
section
variable {P : Program} {T : Nat → Option TI} {M : Mem}

theorem stBuildSlice_sound {d : Nat} {t : TypeId} {len : Nat} {parts : Array (Nat × Operand)} {r : MR} {o : Oper} {ρ : Operand → Value} {ev : Operand → Option AV} (hT : ∀ t i, T t = some i → TF P t i) (hM : MOk M)
    (hev : ∀ x v, ev x = some v → AVR M v (ρ x)) (ho : o.op = .buildSlice t len parts) (h : stBuildSlice T M.H ev d t len parts.toList = some r) : MSound P M ρ o r := by
  unfold stBuildSlice at h
  split at h
  · rename_i elem _ _ _ _ _ hi
    have hu := kind_slice (hT _ _ hi) rfl
    split at h
    · rename_i ie ps hie hps
      have hF := hT _ _ hie
      split at h
      · rename_i cells hcells
        generalize hob : litObj ie len cells = ob at h
        unfold litObj at hob
        cases hb : (Nat.ble (len * ie.sz) 16777216 && Nat.ble 1 ie.sz && Nat.beq ob.sz ie.sz && Nat.beq ob.len len)
        · rw [hb] at h; cases h
        · rw [hb] at h
          simp only [cond_true, Option.some.injEq] at h
          subst h
          simp only [Bool.and_eq_true] at hb
          have hb1 := Nat.le_of_ble_eq_true hb.1.1.1
          have hb2 := Nat.le_of_ble_eq_true hb.1.1.2
          have hb3 := Nat.eq_of_beq_eq_true hb.1.2
          have hb4 := Nat.eq_of_beq_eq_true hb.2
          obtain ⟨ti, z, g1, g2, g3, g4, g5, g6⟩ := zero_len (M := M) hF
          obtain ⟨hl, hp⟩ := partsCells_sound hev hps
          -- the zero cells
          obtain ⟨zc, hzc0, hz2⟩ : ∃ zc : Array Value, (len * ie.sz = 0 → zc = #[]) ∧ (len * ie.sz ≠ 0 → zc = z.cells) := by
            by_cases h0 : len * ie.sz = 0
            · exact ⟨#[], fun _ => rfl, fun h => absurd h0 h⟩
            · exact ⟨z.cells, fun h => absurd h h0, fun _ => rfl⟩
          have hll : len ≤ len * ie.sz := Nat.le_mul_of_pos_right _ hb2
          have hinit : CellsR M (List.replicate (len * ie.sz) .any) ((Array.range (len * ie.sz)).map (zc[· % zc.size]!)) := by
            refine ⟨by simp, fun i v hi => ?_⟩
            have hlt : i < len * ie.sz := by
              have := (List.getElem?_eq_some_iff.1 hi).1
              simpa using this
            have hv : v = .any := by
              rw [List.getElem?_replicate, if_pos hlt] at hi
              exact (Option.some.inj hi).symm
            subst hv
            refine ⟨zc[i % zc.size]!, by simp [hlt], ?_⟩
            have hzz : zc = z.cells := hz2 (by omega)
            obtain ⟨ti', z', k1, k2, k3, k4, k5, k6⟩ := hF.info
            show (zc[i % zc.size]!).oneCell' = true
            by_cases hs : zc.size = 0
            · have : zc = #[] := Array.eq_empty_of_size_eq_zero hs
              rw [this]; rfl
            · have hlt2 : i % zc.size < zc.size := Nat.mod_lt _ (by omega)
              rw [getElem!_pos zc _ hlt2]
              have hzeq : zc = z'.cells := by
                rw [g1] at k1
                cases k1
                rw [g4] at k4
                cases k4
                exact hzz
              exact k6 _ (by rw [← hzeq]; exact Array.mem_toList_iff.2 (Array.getElem_mem hlt2))
          obtain ⟨cs, hfill, hcs⟩ := fill_sound (M := M) (cs := (Array.range (len * ie.sz)).map (zc[· % zc.size]!)) hcells hinit hl hp
          have hcl : cells.length = len * ie.sz := by
            have h1 := hcs.1
            have h2 := fill_size hfill
            simp at h2
            omega
          have hcellsOb : ∀ i, i < ob.len → ∀ j, j < ob.sz → ∃ u, cs[i * ob.sz + j]? = some u ∧ u.oneCell' = true ∧ VR M (ob.cell i j) u := by
            intro i hi' j hj
            rw [hb4] at hi'
            rw [hb3] at hj ⊢
            have hin : (i + 1) * ie.sz ≤ len * ie.sz := Nat.mul_le_mul_right _ hi'
            rw [Nat.add_mul, Nat.one_mul] at hin
            have hk : i * ie.sz + j < cells.length := by omega
            obtain ⟨u, hu1, hu2⟩ := hcs.2 _ _ (List.getElem?_eq_getElem hk)
            refine ⟨u, hu1, VR_oneCell hu2, ?_⟩
            have hgd : cells.getD (i * ie.sz + j) .any = cells[i * ie.sz + j] := by
              simp only [List.getD_eq_getElem?_getD, List.getElem?_eq_getElem hk, Option.getD_some]
            have hbox : VR M ((Obj.box len ie.sz cells).cell i j) u := by
              simp only [Obj.cell]; rw [hgd]; exact hu2
            split at hob
            · rename_i c hc0
              split at hob
              · rename_i c' hpush
                subst hob
                obtain ⟨k1, g⟩ := C0.pushAll_ok (M := M) hpush
                have hcz : c.sz = ie.sz := by rw [← hb3]; exact g.sz.symm
                have hcl0 : c.len = 0 := by
                  have := g.len
                  have h5 : c'.len = len := hb4
                  omega
                have := g.new i j hi' (by omega) u (by rw [hcz, hgd]; exact hu2)
                rw [hcl0, Nat.zero_add] at this
                exact this
              · subst hob; exact hbox
            · split at hob
              · rename_i c hc0
                split at hob
                · rename_i c' hpush
                  subst hob
                  obtain ⟨k1, g⟩ := C1.pushAll_ok (M := M) hpush
                  have hcz : c.sz = ie.sz := by rw [← hb3]; exact g.sz.symm
                  have hcl0 : c.len = 0 := by
                    have := g.len
                    have h5 : c'.len = len := hb4
                    omega
                  have := g.new i j hi' (by omega) u (by rw [hcz, hgd]; exact hu2)
                  rw [hcl0, Nat.zero_add] at this
                  exact this
                · subst hob; exact hbox
              · subst hob; exact hbox
          obtain ⟨hok, hext⟩ := alloc_bind hM (100 + d) ob cs elem M.w rfl rfl rfl rfl (by rw [hb4, hb3]; have := hcs.1; omega) hcellsOb
          refine ⟨.value (.slice (some ⟨M.w.heap.size, 0, none⟩) len len), _, ?_, rfl, hok, hext, _, rfl, clrO (Nat.beq (100 + d)) ob, ?_, ?_, ?_⟩
          · have hn : ¬ (len * ie.sz > 2 ^ 24) := by omega
            have hpt : (parts.map fun (p : Nat × Operand) => (p.1, ρ p.2)).toList = parts.toList.map fun (p : Nat × Operand) => (p.1, ρ p.2) := by simp
            have hrun : (Instr.buildSlice t len (parts.map fun (i, x) => (i, ρ x))).run P M.w = .ok (.slice (some ⟨M.w.heap.size, 0, none⟩) len len) (M.w.alloc (.cells cs elem)) := by
              simp only [Instr.buildSlice, Sem.run_bind, run_underlying hu, Result.andThen_ok, sizeOf_run hF, if_neg hn]
              by_cases h0 : len * ie.sz = 0
              · have hze := hzc0 h0
                subst hze
                simp only [if_pos h0, Sem.run_bind, Sem.run_pure, Result.andThen_ok, hpt, hfill, newRow, run_newObj]
                rfl
              · have hze := hz2 h0
                subst hze
                simp only [if_neg h0, Sem.run_bind, zeroValue, typeInfo, run_program, g1, g4, Sem.run_pure, Result.andThen_ok, hpt, hfill, newRow, run_newObj]
                rfl
            simp only [execOp, ho, Sem.run_bind, hrun, Result.andThen_ok, Sem.run_pure]
          · show look (100 + d) (ins (100 + d) _ _) = _
            rw [look_ins, if_pos rfl]
          · rw [clrO_len, hb4]; omega
          · refine .inr ⟨M.w.heap.size, 0, 0, len, by simp, rfl, Nat.le_refl _, by simp only [maxLen]; omega, by omega, cs, elem, heap_alloc_new _ _, ?_⟩
            rw [clrO_sz, hb3, Nat.zero_add, Nat.zero_add]
            have := hcs.1
            omega
      · cases h
    · cases h
  · cases h

theorem row_list {w : World} {b off len z : Nat} {C : Nat → Nat → Value → Prop} (h : ∀ i, i < len → ∀ j, j < z → ∃ u, w.cell? ⟨b, off + (i * z + j), none⟩ = some u ∧ C i j u) :
    ∃ news : List Value, news.length = len * z ∧ (∀ (k : Nat) (v : Value), news[k]? = some v → w.cell? ⟨b, off + k, none⟩ = some v) ∧ ∀ i j, i < len → j < z → ∃ v, news[i * z + j]? = some v ∧ C i j v := by
  have hk : ∀ k, k < len * z → ∃ u, w.cell? ⟨b, off + k, none⟩ = some u ∧ C (k / z) (k % z) u := by
    intro k hk
    have hz : 0 < z := by
      rcases Nat.eq_zero_or_pos z with h0 | h0
      · subst h0; simp at hk
      · exact h0
    obtain ⟨u, h1, h2⟩ := h (k / z) (Nat.div_lt_of_lt_mul (by rw [Nat.mul_comm]; exact hk)) (k % z) (Nat.mod_lt _ hz)
    refine ⟨u, ?_, h2⟩
    rw [← h1]
    congr 3
    rw [Nat.mul_comm, Nat.div_add_mod]
  refine ⟨(List.range (len * z)).map fun k => (w.cell? ⟨b, off + k, none⟩).getD undef, by simp, fun k v hv => ?_, fun i j hi hj => ?_⟩
  · simp only [List.getElem?_map, Option.map_eq_some_iff] at hv
    obtain ⟨k', hk', rfl⟩ := hv
    have hlt : k < len * z := by
      have := (List.getElem?_eq_some_iff.1 hk').1
      simpa using this
    have he : k' = k := by
      rw [List.getElem?_range hlt] at hk'
      exact (Option.some.inj hk').symm
    subst he
    obtain ⟨u, h1, _⟩ := hk _ hlt
    rw [h1]; rfl
  · have hin : (i + 1) * z ≤ len * z := Nat.mul_le_mul_right _ hi
    rw [Nat.add_mul, Nat.one_mul] at hin
    have hlt : i * z + j < len * z := by omega
    obtain ⟨u, h1, h2⟩ := h i hi j hj
    refine ⟨u, ?_, h2⟩
    simp [List.getElem?_range hlt, h1]

def Src.cell (z : Nat) : Src → Nat → Nat → V1
  | .c0 c, i, j => c.cell i j
  | .c1 c, i, j => c.cell i j
  | .cells _ vs, i, j => vs.getD (i * z + j) .any

theorem app_ok {o o' : Obj} {src : Src} (h : o.app src = some o') : GrowOk M o.len o.sz o'.len o'.sz o.cell o'.cell src.len (src.cell o.sz) := by
  unfold Obj.app at h
  split at h <;> (try simp only [Option.map_eq_some_iff] at h) <;> first | (cases h; done) | skip
  · obtain ⟨c', hc, rfl⟩ := h
    exact (C0.app_ok hc).2
  · obtain ⟨c', hc, rfl⟩ := h
    exact (C0.pushAll_ok hc).2
  · obtain ⟨c', hc, rfl⟩ := h
    exact (C1.app_ok hc).2
  · obtain ⟨c', hc, rfl⟩ := h
    exact (C1.pushAll_ok hc).2

/-- The cells of what is appended lie where the source's slice says. -/
theorem srcOf_sound {x : V1} {src : Src} {u : Value} {z : Nat} (hM : MOk M) (h : srcOf M.H x = some src) (hz : sliceSz M.H z x = true) (hx : VR M x u) :
    ∃ A cap, u = .slice A src.len cap ∧ (A = none → src.len = 0) ∧
      ∃ news : List Value, news.length = src.len * z ∧ (∀ b off s, A = some ⟨b, off, s⟩ → src.len ≠ 0 → s = none ∧ ∀ (k : Nat) (v : Value), news[k]? = some v → M.w.cell? ⟨b, off + k, none⟩ = some v) ∧
        ∀ i j, i < src.len → j < z → ∃ v, news[i * z + j]? = some v ∧ v.oneCell' = true ∧ VR M (src.cell z i j) v := by
  cases x <;> simp only [srcOf] at h <;> first | (cases h; done) | skip
  case nils =>
    simp only [Option.some.injEq] at h
    subst h
    obtain ⟨A, rfl⟩ := hx
    exact ⟨A, 0, rfl, fun _ => rfl, [], by simp [Src.len], fun b off s _ h => absurd rfl h, fun i j hi => absurd hi (by simp [Src.len])⟩
  case ro c =>
    simp only [Option.some.injEq] at h
    subst h
    have hs := Nat.eq_of_beq_eq_true hz
    obtain ⟨A, cap, rfl, h1, h2, h3⟩ := hx
    refine ⟨A, cap, rfl, fun hA => ?_, ?_⟩
    · rcases h3 with h3 | ⟨b, off, rfl, _⟩
      · exact h3
      · cases hA
    · rcases h3 with h3 | ⟨b, off, rfl, hr⟩
      · have h30 : (Src.c0 c).len = 0 := h3
        exact ⟨[], by simp [h30], fun b off s _ h => absurd h30 h, fun i j hi => by omega⟩
      · obtain ⟨news, n1, n2, n3⟩ := row_list (w := M.w) (b := b) (off := off) (len := c.len) (z := c.sz) hr.2
        refine ⟨news, by rw [hs]; exact n1, fun b' off' s hA _ => ?_, fun i j hi hj => ?_⟩
        · cases hA
          exact ⟨rfl, n2⟩
        · rw [hs] at hj ⊢
          obtain ⟨v, hv1, hv2⟩ := n3 i j hi hj
          exact ⟨v, hv1, VR_oneCell (M := M) (C0_cell_VR hv2), C0_cell_VR hv2⟩
  case rs c =>
    simp only [Option.some.injEq] at h
    subst h
    have hs := Nat.eq_of_beq_eq_true hz
    obtain ⟨A, cap, rfl, h1, h2, h3⟩ := hx
    refine ⟨A, cap, rfl, fun hA => ?_, ?_⟩
    · rcases h3 with h3 | ⟨b, off, rfl, _⟩
      · exact h3
      · cases hA
    · rcases h3 with h3 | ⟨b, off, rfl, hr⟩
      · have h30 : (Src.c1 c).len = 0 := h3
        exact ⟨[], by simp [h30], fun b off s _ h => absurd h30 h, fun i j hi => by omega⟩
      · obtain ⟨news, n1, n2, n3⟩ := row_list (w := M.w) (b := b) (off := off) (len := c.len) (z := c.sz) hr.2
        refine ⟨news, by rw [hs]; exact n1, fun b' off' s hA _ => ?_, fun i j hi hj => ?_⟩
        · cases hA
          exact ⟨rfl, n2⟩
        · rw [hs] at hj ⊢
          obtain ⟨v, hv1, hv2⟩ := n3 i j hi hj
          exact ⟨v, hv1, VR_oneCell (M := M) (C1_cell_VR hv2), C1_cell_VR hv2⟩
  case rw id off len =>
    simp only [sliceSz] at hz
    obtain ⟨o, ho, hon, hv⟩ := hx
    rw [ho] at h hz
    simp only at h hz
    have hs := Nat.eq_of_beq_eq_true hz
    have key : src.len = len → (∀ i j, i < len → j < z → src.cell z i j = o.cell (off + i) j) →
        ∃ A cap, u = .slice A src.len cap ∧ (A = none → src.len = 0) ∧
          ∃ news : List Value, news.length = src.len * z ∧ (∀ b off s, A = some ⟨b, off, s⟩ → src.len ≠ 0 → s = none ∧ ∀ (k : Nat) (v : Value), news[k]? = some v → M.w.cell? ⟨b, off + k, none⟩ = some v) ∧
            ∀ i j, i < src.len → j < z → ∃ v, news[i * z + j]? = some v ∧ v.oneCell' = true ∧ VR M (src.cell z i j) v := by
      intro hl hcell
      rw [hl]
      rcases hv with ⟨rfl, A, rfl⟩ | ⟨b, p, a, cap, hm, rfl, h1, h2, rfl, cur, e, hcur, hfit⟩
      · exact ⟨A, 0, rfl, fun _ => rfl, [], by simp, fun b off s _ h => absurd rfl h, fun i j hi => by omega⟩
      · obtain ⟨cur', e', k1, k2, k3⟩ := hM.obj id o b p ho hm
        obtain ⟨news, n1, n2, n3⟩ := row_list (w := M.w) (b := b) (off := p + off * o.sz) (len := len) (z := o.sz) (C := fun i j v => v.oneCell' = true ∧ VR M (o.cell (off + i) j) v) (fun i hi j hj => by
          obtain ⟨v, v1, v2, v3⟩ := k3 (off + i) (by omega) j hj
          refine ⟨v, ?_, v2, v3⟩
          rw [cell_of_row _ _ _ _ _ _ k1, ← v1]
          congr 1
          rw [Nat.add_mul]; omega)
        refine ⟨_, _, rfl, fun h => (by cases h), news, by rw [hs]; exact n1, fun b' off' s hA _ => ?_, fun i j hi hj => ?_⟩
        · cases hA
          exact ⟨rfl, n2⟩
        · rw [hcell i j hi hj]
          rw [hs] at hj ⊢
          obtain ⟨v, v1, v2, v3⟩ := n3 i j hi hj
          exact ⟨v, v1, v2, v3⟩
    cases o with
    | flat c =>
      simp only [Option.some.injEq] at h
      subst h
      simp only [nadd_eq] at *
      have hlc : (c.sub off (off + len)).len = len := by rw [C0.sub_len c off (off + len) hon]; omega
      exact key hlc (fun i j hi hj => by simp only [Src.cell, Obj.cell]; rw [C0.sub_cell _ _ _ _ _ (by omega)])
    | recs c =>
      simp only [Option.some.injEq] at h
      subst h
      simp only [nadd_eq] at *
      have hlc : (c.sub off (off + len)).len = len := by rw [C1.sub_len c off (off + len) hon]; omega
      exact key hlc (fun i j hi hj => by simp only [Src.cell, Obj.cell]; rw [C1.sub_cell _ _ _ _ _ (by omega)])
    | box n sz vs =>
      simp only [Option.some.injEq] at h
      subst h
      have hs' : z = sz := hs
      refine key rfl (fun i j hi hj => ?_)
      simp only [Src.cell, Obj.cell, List.getD_eq_getElem?_getD]
      have hin : (i + 1) * sz ≤ len * sz := Nat.mul_le_mul_right _ hi
      rw [Nat.add_mul, Nat.one_mul] at hin
      rw [List.getElem?_take, hs', if_pos (by omega), List.getElem?_drop]
      congr 2
      rw [Nat.add_mul]; omega

theorem firstCells_slice {w : World} {A : Option Addr} {n z cap len : Nat} {news : List Value} (hl : news.length = n * z) (hA : A = none → n = 0)
    (hn : ∀ b off s, A = some ⟨b, off, s⟩ → n ≠ 0 → s = none ∧ ∀ (k : Nat) (v : Value), news[k]? = some v → w.cell? ⟨b, off + k, none⟩ = some v) :
    (Builtin.firstCells z n (.slice A len cap)).run P w = .ok news.toArray w := by
  rcases Nat.eq_zero_or_pos n with h0 | h0
  · subst h0
    have : news = [] := List.eq_nil_of_length_eq_zero (by simpa using hl)
    subst this
    cases A <;> simp [Builtin.firstCells, loadCells, loadCellsFrom]
  · cases A with
    | none => have := hA rfl; omega
    | some a =>
      obtain ⟨b, off, s⟩ := a
      obtain ⟨rfl, hc⟩ := hn b off s rfl (by omega)
      exact run_firstCells_some (P := P) w z n ⟨b, off, none⟩ len cap news hl (fun j v hj => by rw [ptr_add]; exact hc j v hj)

theorem run_app_grow {w : World} {t ty e : TypeId} {ti : TypeInfo} {zv : Value} (ht : P.underlying t = some (.slice e)) (hi : P.info? e = some ti) (hz : ti.zero = some zv) {A Ax : Option Addr} {len cap n capx : Nat} {olds news : List Value}
    (hs : ∀ w' : World, w'.heap = w.heap → (Builtin.firstCells ti.size len (.slice A len cap)).run P w' = .ok olds.toArray w') (hx : ∀ w' : World, w'.heap = w.heap → (Builtin.firstCells ti.size n (.slice Ax n capx)).run P w' = .ok news.toArray w')
    (hg : cap < len + n) (h63 : len + n ≤ 9223372036854775807) (hb : (len + n) * ti.bytes ≤ 140737488355328) :
    (Builtin.append_ #[t, t] ty #[.slice A len cap, .slice Ax n capx]).run P w =
      .ok (.slice (some ⟨w.heap.size, 0, none⟩) (len + n) (grownCap w (len + n) cap e)) (w.drew.alloc (.cells (olds.toArray ++ news.toArray ++ Builtin.zeroCells zv.cells (grownCap w (len + n) cap e - (len + n))) e)) := by
  have hn : ¬ (len + n ≤ cap) := by omega
  have h63' : ¬ (9223372036854775807 < ((len : Int) + (n : Int))) := by omega
  have hfit := growslice_fits (need := len + n) (old := cap) (bytes := ti.bytes) hg hb
  have h48' : ¬ (281474976710656 < Builtin.nextslicecap (len + n) cap * ti.bytes) := by omega
  simp [Builtin.append_, run_underlying ht, sizeOf, typeInfo, zeroValue, hi, hz, Builtin.lenOf, hn, h63', h48', Question.forced, hx w.drew rfl, hs w.drew rfl, newRow, grownCap]
  congr 2
  apply Array.ext'
  simp [List.append_assoc]

theorem run_app_stay {w : World} {t ty e : TypeId} {ti : TypeInfo} (ht : P.underlying t = some (.slice e)) (hi : P.info? e = some ti) {b a : Nat} {Ax : Option Addr} {len cap n capx : Nat} {news : List Value} {cur : Array Value} {te : TypeId}
    (hx : (Builtin.firstCells ti.size n (.slice Ax n capx)).run P w = .ok news.toArray w) (hg : len + n ≤ cap) (hcur : w.heap[b]? = some (.cells cur te (0, 0))) (hfit : a + len * ti.size + news.length ≤ cur.size) (h1 : ∀ v ∈ news, v.oneCell' = true) :
    (Builtin.append_ #[t, t] ty #[.slice (some ⟨b, a, none⟩) len cap, .slice Ax n capx]).run P w =
      .ok (.slice (some ⟨b, a, none⟩) (len + n) cap) (w.setRow b (cur.toList.take (a + len * ti.size) ++ news ++ cur.toList.drop (a + len * ti.size + news.length)).toArray) := by
  have hst := run_storeCells_at P b (a + len * ti.size) te news 0 cur w hcur (by simpa using hfit) h1
  simp only [Nat.add_zero] at hst
  simp [Builtin.append_, run_underlying ht, sizeOf, typeInfo, hi, Builtin.lenOf, hg, hx, Addr.add_lit, hst]

theorem run_app_none {w : World} {t ty e : TypeId} {ti : TypeInfo} (ht : P.underlying t = some (.slice e)) (hi : P.info? e = some ti) {A Ax : Option Addr} {capx : Nat}
    (hx : (Builtin.firstCells ti.size 0 (.slice Ax 0 capx)).run P w = .ok #[] w) :
    (Builtin.append_ #[t, t] ty #[.slice A 0 0, .slice Ax 0 capx]).run P w = .ok (.slice A 0 0) w := by
  cases A <;> simp [Builtin.append_, run_underlying ht, sizeOf, typeInfo, hi, Builtin.lenOf, hx, storeCells]

theorem from_ok {o : Obj} {off len : Nat} (hbox : o.grows = true) (hl : off + len = o.len) :
    (cond (Nat.beq off 0) o (o.from_ off)).len = len ∧ (cond (Nat.beq off 0) o (o.from_ off)).sz = o.sz ∧ ∀ i j, i < len → (cond (Nat.beq off 0) o (o.from_ off)).cell i j = o.cell (off + i) j := by
  by_cases h0 : off = 0
  · subst h0
    refine ⟨by simp []; omega, rfl, fun i j _ => by rw [Nat.zero_add]; rfl⟩
  · rw [beq_ne h0]
    simp only [cond_false]
    cases o with
    | flat c =>
      have hh : off + len = c.len := hl
      refine ⟨by simp only [Obj.from_, Obj.len, C0.sub_len c off c.len (Nat.le_refl _)]; omega, by simp only [Obj.from_, Obj.sz, C0.sub_sz], fun i j hi => ?_⟩
      simp only [Obj.from_, Obj.cell]
      exact C0.sub_cell _ _ _ _ _ (by omega)
    | recs c =>
      have hh : off + len = c.len := hl
      refine ⟨by simp only [Obj.from_, Obj.len, C1.sub_len c off c.len (Nat.le_refl _)]; omega, by simp only [Obj.from_, Obj.sz, C1.sub_sz], fun i j hi => ?_⟩
      simp only [Obj.from_, Obj.cell]
      exact C1.sub_cell _ _ _ _ _ (by omega)
    | box => cases hbox

theorem app_clr {o o' : Obj} {src : Src} (h : o.app src = some o') (X : Nat → Bool) : clrO X o' = o' := by
  unfold Obj.app at h
  split at h <;> (try simp only [Option.map_eq_some_iff] at h) <;> first | (cases h; done) | (obtain ⟨c', _, rfl⟩ := h; rfl)

/-- Behind an append that grows. -/
theorem grow_sound {id : Nat} {o o' : Obj} {src : Src} {zv : Value} {e : TypeId} {olds news : List Value} {newCap : Nat} (hM : MOk M) (_hz : 1 ≤ o.sz) (happ : o.app src = some o') (hol : olds.length = o.len * o.sz)
    (holds : ∀ i j, i < o.len → j < o.sz → ∃ v, olds[i * o.sz + j]? = some v ∧ v.oneCell' = true ∧ VR M (o.cell i j) v) (hnl : news.length = src.len * o.sz)
    (hnews : ∀ i j, i < src.len → j < o.sz → ∃ v, news[i * o.sz + j]? = some v ∧ v.oneCell' = true ∧ VR M (src.cell o.sz i j) v) (hzs : zv.cells.size = o.sz) (hcap : o.len + src.len ≤ newCap) (hcm : newCap ≤ maxLen) :
    ∃ M' : Mem, M'.w = M.w.drew.alloc (.cells (olds.toArray ++ news.toArray ++ Builtin.zeroCells zv.cells (newCap - (o.len + src.len))) e) ∧ M'.H = ins id o' (mapV (clrO (Nat.beq id)) M.H) ∧ MOk M' ∧ Ext (Nat.beq id) M M' ∧
      VR M' (.rw id 0 (o.len + src.len)) (.slice (some ⟨M.w.heap.size, 0, none⟩) (o.len + src.len) newCap) := by
  have g := app_ok (M := M) happ
  have hsz : o'.sz = o.sz := g.sz
  have hlen : o'.len = o.len + src.len := g.len
  generalize hcur : olds.toArray ++ news.toArray ++ Builtin.zeroCells zv.cells (newCap - (o.len + src.len)) = cur
  have hcz : cur.size = newCap * o.sz := by
    rw [← hcur]
    simp only [Array.size_append, List.size_toArray, size_zeroCells, hol, hnl, hzs, ← Nat.add_mul]
    congr 1
    omega
  have hcell : ∀ i, i < o'.len → ∀ j, j < o'.sz → ∃ u, cur[i * o'.sz + j]? = some u ∧ u.oneCell' = true ∧ VR M (o'.cell i j) u := by
    intro i hi j hj
    rw [hlen] at hi
    rw [hsz] at hj ⊢
    by_cases hio : i < o.len
    · obtain ⟨v, h1, h2, h3⟩ := holds i j hio hj
      refine ⟨v, ?_, h2, by rw [g.old i j hio]; exact h3⟩
      have hlt := (List.getElem?_eq_some_iff.1 h1).1
      rw [← hcur, Array.append_assoc, Array.getElem?_append_left (by simpa using hlt)]
      simpa using h1
    · have hin : i - o.len < src.len := by omega
      obtain ⟨v, h1, h2, h3⟩ := hnews (i - o.len) j hin hj
      refine ⟨v, ?_, h2, ?_⟩
      · have hlt := (List.getElem?_eq_some_iff.1 h1).1
        have hidx : i * o.sz + j = olds.length + ((i - o.len) * o.sz + j) := by
          rw [hol, ← Nat.add_assoc, ← Nat.add_mul]
          congr 2
          omega
        rw [← hcur, Array.append_assoc, Array.getElem?_append_right (by rw [hidx]; simp), hidx, Array.getElem?_append_left (by simp; omega)]
        simpa using h1
      · have := g.new (i - o.len) j hin hj v h3
        rw [show o.len + (i - o.len) = i from by omega] at this
        exact this
  obtain ⟨hok, hext⟩ := alloc_bind hM id o' cur e M.w.drew rfl rfl rfl rfl (by rw [hlen, hsz, hcz]; exact Nat.mul_le_mul_right _ hcap) hcell
  rw [app_clr happ] at hok hext
  refine ⟨_, rfl, rfl, hok, hext, o', ?_, by omega, ?_⟩
  · show look id (ins id _ _) = _
    rw [look_ins, if_pos rfl]
  · refine .inr ⟨M.w.heap.size, 0, 0, newCap, by simp, rfl, hcap, hcm, by omega, cur, e, heap_alloc_new M.w.drew _, ?_⟩
    rw [hsz, hcz, Nat.zero_add, Nat.zero_add]
    exact Nat.le_refl _

theorem stAppend_sound {d : Nat} {t : TypeId} {a b : AV} {ua ub : Value} {r : MR} {o : Oper} {ρ : Operand → Value} {xs xx : Operand} (hT : ∀ t i, T t = some i → TF P t i) (hM : MOk M)
    (ho : o.op = .call { callee := .builtin .append, args := #[xs, xx], argTypes := #[t, t] }) (hxs : ρ xs = ua) (hxx : ρ xx = ub)
    (h : stAppend T M.H d t a b = some r) (ha : AVR M a ua) (hb : AVR M b ub) (hc : AllP r.cs) : MSound P M ρ o r := by
  unfold stAppend at h
  split at h
  · rename_i s x
    split at h
    · rename_i elem _ _ _ _ _ hi
      have hu := kind_slice (hT _ _ hi) rfl
      split at h
      · rename_i ie hie
        have hF := hT _ _ hie
        split at h
        · rename_i id ob full src hbase hsrc
          split at h
          · rename_i o' happ
            have hl2 : len2 s ob.len src.len = ob.len + src.len := by
              cases s <;> try rfl
              simp only [appBase] at hbase
              split at hbase
              · rename_i o1 _
                cases hz0 : Nat.beq o1.len 0
                · rw [hz0] at hbase; cases hbase
                · rw [hz0] at hbase
                  simp only [cond_true, Option.some.injEq, Prod.mk.injEq] at hbase
                  obtain ⟨_, rfl, _⟩ := hbase
                  rw [Nat.eq_of_beq_eq_true hz0, Nat.zero_add]; rfl
              · cases hbase
            rw [hl2] at h
            cases hb0 : (Nat.beq ob.sz ie.sz && Nat.ble 1 ie.sz && sliceSz M.H ie.sz x)
            · rw [hb0] at h; cases h
            · rw [hb0] at h
              simp only [cond_true, Option.some.injEq] at h
              subst h
              simp only [Bool.and_eq_true] at hb0
              obtain ⟨⟨hs0, hs1⟩, hs2⟩ := hb0
              have hsz : ob.sz = ie.sz := Nat.eq_of_beq_eq_true hs0
              have hz1 : 1 ≤ ie.sz := Nat.le_of_ble_eq_true hs1
              obtain ⟨hfull, hbytes, h63, _⟩ := hc
              obtain ⟨ti, zv, g1, g2, g3, g4, g5, g6⟩ := zero_len (M := M) hF
              obtain ⟨Ax, capx, hub, hAx, news, nl, nc, nv⟩ := srcOf_sound hM hsrc hs2 hb
              have nv' : ∀ i j, i < src.len → j < ob.sz → ∃ v, news[i * ob.sz + j]? = some v ∧ v.oneCell' = true ∧ VR M (src.cell ob.sz i j) v := by
                rw [hsz]; exact nv
              have n1 : ∀ v ∈ news, v.oneCell' = true := by
                intro v hv
                obtain ⟨k, hk⟩ := List.mem_iff_getElem?.1 hv
                have hlt := (List.getElem?_eq_some_iff.1 hk).1
                obtain ⟨v', hv', h1, _⟩ := nv (k / ie.sz) (k % ie.sz) (Nat.div_lt_of_lt_mul (by rw [Nat.mul_comm]; omega)) (Nat.mod_lt _ (by omega))
                rw [Nat.mul_comm, Nat.div_add_mod, hk] at hv'
                cases hv'
                exact h1
              have hx : ∀ w' : World, w'.heap = M.w.heap → (Builtin.firstCells ti.size src.len (.slice Ax src.len capx)).run P w' = .ok news.toArray w' := by
                intro w' hw'
                refine firstCells_slice (by rw [g2]; exact nl) hAx (fun b off s hA hne => ?_)
                obtain ⟨e1, e2⟩ := nc b off s hA hne
                exact ⟨e1, fun k v hk => (World.cell?_of_block (w := M.w) (w' := w') (a := ⟨b, off + k, none⟩) (by rw [hw'])).trans (e2 k v hk)⟩
              have hrunop : ∀ (v : Value) (w' : World), (Builtin.append_ #[t, t] o.type #[ua, ub]).run P M.w = .ok v w' → (execOp ρ o).run P M.w = .ok (.value v) w' := by
                intro v w' hr
                simp only [execOp, ho, resolve, Sem.run_bind, Sem.run_pure, Result.andThen_ok, invoke, builtin, List.map_toArray, List.map_cons, List.map_nil, hxs, hxx, hr]
              have hzs : zv.cells.size = ob.sz := by
                obtain ⟨ti', z', k1, k2, k3, k4, k5, k6⟩ := hF.info
                rw [hsz, hF.szz]
                exact g5
              -- the way on from an empty slice without room
              have empty : ∀ A, ua = .slice A 0 0 → ob.len = 0 → (∀ y oy q bb, look y M.H = some oy → M.μ y = some (bb, q) → y = id → True) → MSound P M ρ o
                  ⟨[full = fullLen M.H s, (ob.len + src.len) * ie.bytes ≤ 140737488355328, ob.len + src.len ≤ 9223372036854775807], some (.one (.rw id 0 (ob.len + src.len))), ins id o' (mapV (clrO (Nat.beq id)) M.H), some id⟩ := by
                intro A hua hol _
                by_cases hn : src.len = 0
                · obtain ⟨hok, hext⟩ := MOk_free hM id o' (by have := (app_ok (M := M) happ).len; omega)
                  refine ⟨.value (.slice A 0 0), _, hrunop _ _ ?_, rfl, hok, hext, _, rfl, o', ?_, by omega, .inl ⟨by omega, A, rfl⟩⟩
                  · rw [hua, hub, hn]
                    have hx0 := hx M.w rfl
                    rw [hn] at hx0
                    have : news = [] := List.eq_nil_of_length_eq_zero (by rw [nl, hn, Nat.zero_mul])
                    rw [this] at hx0
                    exact run_app_none (P := P) hu g1 hx0
                  · show look id (ins id _ _) = _
                    rw [look_ins, if_pos rfl]
                · have hnewc : src.len ≤ grownCap M.w (0 + src.len) 0 elem := by have := grownCap_ge M.w (0 + src.len) 0 elem; omega
                  have hncm := grownCap_le_maxLen M.w (0 + src.len) 0 elem (by simp only [maxLen]; omega)
                  obtain ⟨M', hw', hH', hok, hext, hvr⟩ := grow_sound (id := id) (zv := zv) (e := elem) (olds := []) (news := news) (newCap := grownCap M.w (0 + src.len) 0 elem) hM (by omega) happ (by simp [hol]) (fun i j hi => by omega) (by rw [hsz]; exact nl) nv' hzs (by omega) hncm
                  refine ⟨.value (.slice (some ⟨M.w.heap.size, 0, none⟩) (0 + src.len) (grownCap M.w (0 + src.len) 0 elem)), M', hrunop _ _ ?_, hH', hok, hext, _, rfl, ?_⟩
                  · rw [hua, hub, hw']
                    have := run_app_grow (P := P) (w := M.w) (ty := o.type) hu g1 g4 (A := A) (Ax := Ax) (len := 0) (cap := 0) (n := src.len) (capx := capx) (olds := []) (news := news) (fun w' _ => by cases A <;> simp [Builtin.firstCells, loadCells, loadCellsFrom]) hx (by omega) (by omega) (by rw [g3]; have := hbytes; rw [hol] at this; exact this)
                    rw [this, hol]
                  · rw [hol] at hvr ⊢
                    exact hvr
              unfold appBase at hbase
              simp only [nadd_eq] at hbase
              split at hbase
              · rename_i id0 off len
                split at hbase
                · rename_i oo hoo
                  cases hbx : oo.grows
                  · rw [hbx] at hbase; cases hbase
                  · rw [hbx] at hbase
                    simp only [cond_true, Option.some.injEq, Prod.mk.injEq] at hbase
                    obtain ⟨rfl, rfl, rfl⟩ := hbase
                    have hfl : off + len = oo.len := by
                      simp only [fullLen, hoo] at hfull
                      exact hfull
                    obtain ⟨f1, f2, f3⟩ := from_ok hbx hfl
                    obtain ⟨oo', hoo', hon, hv⟩ := ha
                    rw [hoo] at hoo'
                    cases hoo'
                    rcases hv with ⟨rfl, A, hua⟩ | ⟨b, p, ad, cap, hm, hua, c1, c2, rfl, cur, e, hcur, hfit⟩
                    · exact empty A hua f1 (fun _ _ _ _ _ _ _ => trivial)
                    · obtain ⟨cur', e', k1, k2, k3⟩ := hM.obj id0 oo b p hoo hm
                      rw [hcur] at k1
                      simp only [Option.some.injEq, Obj.cells.injEq] at k1
                      obtain ⟨rfl, rfl, _⟩ := k1
                      generalize hobd : (bif Nat.beq off 0 then oo else oo.from_ off) = ob at *
                      rw [f1] at hbytes h63 ⊢
                      have hosz : oo.sz = ie.sz := by rw [← f2]; exact hsz
                      by_cases hroom : len + src.len ≤ cap
                      · -- there is room
                        have hfit2 : p + off * oo.sz + len * oo.sz + news.length ≤ cur.size := by
                          rw [nl, ← hosz]
                          have h9 : (len + src.len) * oo.sz ≤ cap * oo.sz := Nat.mul_le_mul_right _ hroom
                          rw [Nat.add_mul] at h9
                          rw [Nat.add_mul] at hfit
                          omega
                        have hrun := run_app_stay (P := P) (w := M.w) (ty := o.type) hu g1 (b := b) (a := p + off * oo.sz) (Ax := Ax) (len := len) (cap := cap) (n := src.len) (capx := capx) (hx M.w rfl) hroom hcur (by rw [g2, ← hosz]; exact hfit2) n1
                        rw [g2, ← hosz] at hrun
                        generalize hcc : (cur.toList.take (p + off * oo.sz + len * oo.sz) ++ news ++ cur.toList.drop (p + off * oo.sz + len * oo.sz + news.length)).toArray = cur2 at hrun
                        have hc2s : cur2.size = cur.size := by
                          rw [← hcc]; simp; omega
                        have g := app_ok (M := M) happ
                        obtain ⟨hok, hext⟩ := MOk_bind hM id0 o' b (p + off * oo.sz) cur2 e (M.w.setRow b cur2) rfl rfl rfl (by simp) (fun k hk hne => setRow_other _ _ _ _ hne) (setRow_heap _ _ _ _ _ _ hcur)
                          (fun y oy q hy hmy => hM.inj y id0 oy oo b q p hy hoo hmy hm) (.inr ⟨oo, p, hoo, hm⟩)
                          (by rw [g.len, g.sz, f1, f2, hc2s]
                              have h9 : (len + src.len) * oo.sz ≤ cap * oo.sz := Nat.mul_le_mul_right _ hroom
                              rw [Nat.add_mul] at hfit
                              omega)
                          (fun i hi j hj => by
                            rw [g.len, f1] at hi
                            rw [g.sz, f2] at hj ⊢
                            have hat : ∀ k, cur2[k]? = if p + off * oo.sz + len * oo.sz ≤ k ∧ k < p + off * oo.sz + len * oo.sz + news.length then news[k - (p + off * oo.sz + len * oo.sz)]? else cur[k]? := by
                              intro k
                              rw [← hcc, List.getElem?_toArray, splice_at _ _ _ _ (by simpa using hfit2)]
                              simp
                            rw [hat]
                            by_cases hio : i < len
                            · have h9 : (i + 1) * oo.sz ≤ len * oo.sz := Nat.mul_le_mul_right _ hio
                              rw [Nat.add_mul, Nat.one_mul] at h9
                              rw [if_neg (by omega)]
                              obtain ⟨v, v1, v2, v3⟩ := k3 (off + i) (by omega) j hj
                              refine ⟨v, ?_, v2, by rw [g.old i j (by omega), f3 i j hio]; exact v3⟩
                              rw [← v1]
                              congr 1
                              rw [Nat.add_mul]; omega
                            · have hin : i - len < src.len := by omega
                              obtain ⟨v, v1, v2, v3⟩ := nv' (i - len) j hin (by rw [f2]; exact hj)
                              have hlt := (List.getElem?_eq_some_iff.1 v1).1
                              rw [f2] at v1 hlt
                              have hidx : p + off * oo.sz + (i * oo.sz + j) = p + off * oo.sz + len * oo.sz + ((i - len) * oo.sz + j) := by
                                have : i * oo.sz = len * oo.sz + (i - len) * oo.sz := by rw [← Nat.add_mul]; congr 1; omega
                                omega
                              rw [hidx, if_pos (by omega)]
                              refine ⟨v, by rw [← v1]; congr 1; omega, v2, ?_⟩
                              have := g.new (i - len) j hin (by rw [f2]; exact hj) v v3
                              rw [f1, show len + (i - len) = i from by omega] at this
                              exact this)
                        rw [app_clr happ] at hok hext
                        refine ⟨.value (.slice (some ⟨b, p + off * oo.sz, none⟩) (len + src.len) cap), _, hrunop _ _ (by rw [hua, hub]; exact hrun), rfl, hok, hext, _, rfl, o', ?_, ?_, ?_⟩
                        · show look id0 (ins id0 _ _) = _
                          rw [look_ins, if_pos rfl]
                        · rw [g.len, f1]; omega
                        · refine .inr ⟨b, p + off * oo.sz, p + off * oo.sz, cap, by simp, rfl, hroom, c2, by omega, cur2, e, setRow_heap _ _ _ _ _ _ hcur, ?_⟩
                          rw [g.sz, f2, hc2s, Nat.zero_add]
                          rw [Nat.add_mul] at hfit
                          omega
                      · -- it grows
                        have hcap : cap < len + src.len := by omega
                        obtain ⟨olds, ol, oc, ov⟩ := row_list (w := M.w) (b := b) (off := p + off * oo.sz) (len := len) (z := oo.sz) (C := fun i j v => v.oneCell' = true ∧ VR M (oo.cell (off + i) j) v) (fun i hi j hj => by
                          obtain ⟨v, v1, v2, v3⟩ := k3 (off + i) (by omega) j hj
                          refine ⟨v, ?_, v2, v3⟩
                          rw [cell_of_row _ _ _ _ _ _ hcur, ← v1]
                          congr 1
                          rw [Nat.add_mul]; omega)
                        have hgc := grownCap_ge M.w (len + src.len) cap elem
                        have hncm := grownCap_le_maxLen M.w (len + src.len) cap elem (by simp only [maxLen]; omega)
                        obtain ⟨M', hw', hH', hok, hext, hvr⟩ := grow_sound (id := id0) (zv := zv) (e := elem) (olds := olds) (news := news) (newCap := grownCap M.w (len + src.len) cap elem) hM (by omega) happ (by rw [f1, f2]; exact ol)
                          (fun i j hi hj => by
                            rw [f1] at hi
                            rw [f2] at hj ⊢
                            obtain ⟨v, v1, v2, v3⟩ := ov i j hi hj
                            exact ⟨v, v1, v2, by rw [f3 i j hi]; exact v3⟩) (by rw [hsz]; exact nl) nv' hzs (by omega) hncm
                        refine ⟨.value (.slice (some ⟨M.w.heap.size, 0, none⟩) (len + src.len) (grownCap M.w (len + src.len) cap elem)), M', hrunop _ _ ?_, hH', hok, hext, _, rfl, ?_⟩
                        · rw [hua, hub, hw']
                          have hs : ∀ w' : World, w'.heap = M.w.heap → (Builtin.firstCells ti.size len (.slice (some ⟨b, p + off * oo.sz, none⟩) len cap)).run P w' = .ok olds.toArray w' := by
                            intro w' hw'
                            refine firstCells_slice (by rw [g2, ← hosz]; exact ol) (fun h => (by cases h)) (fun b' off' s' hA hne => ?_)
                            cases hA
                            exact ⟨rfl, fun k v hk => (World.cell?_of_block (w := M.w) (w' := w') (a := ⟨b, p + off * oo.sz + k, none⟩) (by rw [hw'])).trans (oc k v hk)⟩
                          have := run_app_grow (P := P) (w := M.w) (ty := o.type) hu g1 g4 hs hx hcap h63 (by rw [g3]; exact hbytes)
                          rw [this, f1]
                        · rw [f1] at hvr
                          exact hvr
                · cases hbase
              · split at hbase
                · rename_i oe hoe
                  cases hbl : Nat.beq oe.len 0
                  · rw [hbl] at hbase; cases hbase
                  · rw [hbl] at hbase
                    simp only [cond_true, Option.some.injEq, Prod.mk.injEq] at hbase
                    obtain ⟨rfl, rfl, rfl⟩ := hbase
                    obtain ⟨A, hua⟩ := ha
                    exact empty A hua (Nat.eq_of_beq_eq_true hbl) (fun _ _ _ _ _ _ _ => trivial)
                · cases hbase
              · cases hbase
          · cases h
        · cases h
      · cases h
    · cases h
  · cases h

/-- ONE STEP THAT MAY CHANGE THE MEMORY IS SOUND. -/
theorem stepMem_sound {ev : Operand → Option AV} {ρ : Operand → Value} {o : Oper} {r : MR} (hT : ∀ t i, T t = some i → TF P t i) (hM : MOk M) (hev : ∀ x v, ev x = some v → AVR M v (ρ x))
    (h : stepMem T M.H ev o.dst o.op = some r) (hc : AllP r.cs) : MSound P M ρ o r := by
  cases ho : o.op <;> rw [ho] at h <;> simp only [stepMem] at h <;> first | (cases h; done) | skip
  case alloc t =>
    split at h
    · rename_i d hd
      cases hti : T t with
      | none => simp only [stNew, hti] at h; cases h
      | some ti =>
        obtain ⟨z, hz, _, _, hzc⟩ := zero_cells (M := M) (hT _ _ hti) M.w
        refine stNew_sound (val := z) hT hM h (fun ti' cs h1 h2 => ?_) ?_
        · rw [hti] at h1
          cases h1
          cases h2
          exact hzc
        · simp only [execOp, ho, Instr.alloc, Sem.run_bind, hz, Result.andThen_ok, newVar, newRow, run_newObj, Sem.run_pure]
          rfl
    · cases h
  case box t x =>
    split at h
    · rename_i d v hd hv
      refine stNew_sound (val := ρ x) hT hM h (fun ti cs h1 h2 => ?_) ?_
      · split at h2
        · rename_i vs hvs
          cases hb : Nat.beq vs.length ti.sz
          · rw [hb] at h2; cases h2
          · rw [hb] at h2
            simp only [cond_true, Option.some.injEq] at h2
            subst h2
            exact CellsR_cells (hev _ _ hv) hvs
        · cases h2
      · simp only [execOp, ho, Instr.box, Sem.run_bind, newVar, newRow, run_newObj, Result.andThen_ok, Sem.run_pure]
        rfl
    · cases h
  case buildSlice t n parts =>
    split at h
    · exact stBuildSlice_sound hT hM hev ho h
    · cases h
  case load t x =>
    split at h
    · rename_i a ha
      split at h
      · rename_i cs v hv
        simp only [Option.some.injEq] at h
        subst h
        obtain ⟨u, hu, hvr⟩ := stLoad_sound (P := P) hT hM hv (hev _ _ ha) hc
        exact ⟨.value u, M, by simp only [execOp, ho, Sem.run_bind, hu, Result.andThen_ok, Sem.run_pure], rfl, hM, Ext.refl _ _, u, rfl, hvr⟩
      · cases h
    · cases h
  case store t a v =>
    split at h
    · rename_i p u hp hu
      exact stStore_sound hT hM ho rfl rfl h (hev _ _ hp) (hev _ _ hu) hc
    · cases h
  case makeSlice t l c =>
    split at h
    · rename_i d a b hd ha hb
      exact stMake_sound hT hM ho rfl rfl h (hev _ _ ha) (hev _ _ hb) hc
    · cases h
  case call c =>
    obtain ⟨callee, args, types⟩ := c
    obtain ⟨args⟩ := args
    obtain ⟨types⟩ := types
    simp only at h
    split at h
    · rename_i d s x t t' hd
      split at h
      · rename_i a b ha hb
        cases htt : Nat.beq t t'
        · rw [htt] at h; cases h
        · rw [htt] at h
          have e := Nat.eq_of_beq_eq_true htt
          subst e
          exact stAppend_sound hT hM ho rfl rfl h (hev _ _ ha) (hev _ _ hb) hc
      · cases h
    · cases h

end
end Go.Ab
