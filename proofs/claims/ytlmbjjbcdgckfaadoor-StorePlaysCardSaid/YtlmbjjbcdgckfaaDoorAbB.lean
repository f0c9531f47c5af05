/- The abstract machine: parts 9 to 16. -/
import Derived.Test.YtlmbjjbcdgckfaaDoorAbA
import Derived.Deep.LoopGhost
import Derived.StillTail
import Derived.ChangeSlices
import Derived.Deep.Matrix
import Derived.Deep.Fields
import Derived.ChangeSame
import Derived.Carry
namespace Go.Ab
section
variable {P : Program} {T : Nat → Option TI} {M : Mem}
variable {ρ : Operand → Value} {r : MR} {b cap capx len n off z : Nat} {e t ty : TypeId} {w : World} {src : Src} {o o' : Obj} {news : List Value} {A Ax : Option Addr} {ti : TypeInfo}
theorem litObj_plain (ie : TI) (len : Nat) (cells : List V1) : (litObj ie len cells).plain = true := by
 unfold litObj
 split
 ·split <;> rfl
 ·split
  ·split <;> rfl
  ·rfl
theorem stBuildSlice_sound {d : Nat} {parts : Array (Nat × Operand)} {o : Oper} {ev : Operand → Option AV} (hT : ∀ t i, T t = some i → TF P t i) (hM : MOk M)
  (hev : ∀ x v, ev x = some v → AVR M v (ρ x)) (ho : o.op = .buildSlice t len parts) (h : stBuildSlice T M.H ev d t len parts.toList = some r) : MSound P M ρ o r := by
 unfold stBuildSlice at h
 split at h
 ·rename_i elem _ _ _ _ _ hi
  have hu := kind_slice (hT _ _ hi) rfl
  split at h
  ·rename_i ie ps hie hps
   have hF := hT _ _ hie
   split at h
   ·rename_i cells hcells
    have hpl := litObj_plain ie len cells
    generalize hob : litObj ie len cells = ob at h hpl
    unfold litObj at hob
    cases hb : (Nat.ble (len * ie.sz) 16777216 && Nat.ble 1 ie.sz && Nat.beq ob.sz ie.sz && Nat.beq ob.len len)
    ·rw [hb] at h; cases h
    ·rw [hb] at h
     simp only [cond_true, Option.some.injEq] at h
     subst h
     simp only [Bool.and_eq_true] at hb
     have hb1 := Nat.le_of_ble_eq_true hb.1.1.1
     have hb2 := Nat.le_of_ble_eq_true hb.1.1.2
     have hb3 := Nat.eq_of_beq_eq_true hb.1.2
     have hb4 := Nat.eq_of_beq_eq_true hb.2
     obtain ⟨ti, z, g1, g2, g3, g4, g5, g6⟩ := zero_len (M := M) hF
     obtain ⟨hl, hp⟩ := partsCells_sound hev hps
     obtain ⟨zc, hzc0, hz2⟩ : ∃ zc : Array Value, (len * ie.sz = 0 → zc = #[]) ∧ (len * ie.sz ≠ 0 → zc = z.cells) := by
      by_cases h0 : len * ie.sz = 0
      ·exact ⟨#[], fun _ => rfl, fun h => absurd h0 h⟩
      ·exact ⟨z.cells, fun h => absurd h h0, fun _ => rfl⟩
     have hll : len ≤ len * ie.sz := Nat.le_mul_of_pos_right _ hb2
     have hinit : CellsR M (List.replicate (len * ie.sz) .any) ((Array.range (len * ie.sz)).map (zc[· % zc.size]!)) := by
      refine ⟨by simp, fun i v hi => ?_⟩
      have hlt : i < len * ie.sz := by
       have := (List.getElem?_eq_some_iff.1 hi).1
       simpa using this
      have hv : v = .any := by
       rw [List.getElem?_replicate, if_pos hlt] at hi
       exact (Option.some.inj hi).symm
      subst hv
      refine ⟨zc[i % zc.size]!, by simp [hlt], ?_⟩
      have hzz : zc = z.cells := hz2 (by omega)
      obtain ⟨ti', z', k1, k2, k3, k4, k5, k6⟩ := hF.info
      show (zc[i % zc.size]!).oneCell' = true
      by_cases hs : zc.size = 0
      ·have : zc = #[] := Array.eq_empty_of_size_eq_zero hs
       rw [this]; rfl
      ·have hlt2 : i % zc.size < zc.size := Nat.mod_lt _ (by omega)
       rw [getElem!_pos zc _ hlt2]
       have hzeq : zc = z'.cells := by
        rw [g1] at k1
        cases k1
        rw [g4] at k4
        cases k4
        exact hzz
       exact k6 _ (by rw [← hzeq]; exact Array.mem_toList_iff.2 (Array.getElem_mem hlt2))
     obtain ⟨cs, hfill, hcs⟩ := fill_sound (M := M) (cs := (Array.range (len * ie.sz)).map (zc[· % zc.size]!)) hcells hinit hl hp
     have hcl : cells.length = len * ie.sz := by
      have h1 := hcs.1
      have h2 := fill_size hfill
      simp at h2
      omega
     have hcellsOb : ∀ i, i < ob.len → ∀ j, j < ob.sz → ∃ u, cs[i * ob.sz + j]? = some u ∧ u.oneCell' = true ∧ VR M (ob.cell i j) u := by
      intro i hi' j hj
      rw [hb4] at hi'
      rw [hb3] at hj ⊢
      have hin : (i + 1) * ie.sz ≤ len * ie.sz := Nat.mul_le_mul_right _ hi'
      rw [Nat.add_mul, Nat.one_mul] at hin
      have hk : i * ie.sz + j < cells.length := by omega
      obtain ⟨u, hu1, hu2⟩ := hcs.2 _ _ (List.getElem?_eq_getElem hk)
      refine ⟨u, hu1, VR_oneCell hu2, ?_⟩
      have hgd : cells.getD (i * ie.sz + j) .any = cells[i * ie.sz + j] := by
       simp only [List.getD_eq_getElem?_getD, List.getElem?_eq_getElem hk, Option.getD_some]
      have hbox : VR M ((Obj.box len ie.sz cells).cell i j) u := by
       simp only [Obj.cell]; rw [hgd]; exact hu2
      split at hob
      ·rename_i c hc0
       split at hob
       ·rename_i c' hpush
        subst hob
        obtain ⟨k1, g⟩ := C0.pushAll_ok (M := M) hpush
        have hcz : c.sz = ie.sz := by rw [← hb3]; exact g.sz.symm
        have hcl0 : c.len = 0 := by
         have := g.len
         have h5 : c'.len = len := hb4
         omega
        have := g.new i j hi' (by omega) u (by rw [hcz, hgd]; exact hu2)
        rw [hcl0, Nat.zero_add] at this
        exact this
       ·subst hob; exact hbox
      ·split at hob
       ·rename_i c hc0
        split at hob
        ·rename_i c' hpush
         subst hob
         obtain ⟨k1, g⟩ := C1.pushAll_ok (M := M) hpush
         have hcz : c.sz = ie.sz := by rw [← hb3]; exact g.sz.symm
         have hcl0 : c.len = 0 := by
          have := g.len
          have h5 : c'.len = len := hb4
          omega
         have := g.new i j hi' (by omega) u (by rw [hcz, hgd]; exact hu2)
         rw [hcl0, Nat.zero_add] at this
         exact this
        ·subst hob; exact hbox
       ·subst hob; exact hbox
     obtain ⟨hok, hext⟩ := alloc_bind hM (100 + d) ob cs elem M.w hpl rfl rfl rfl rfl (Nat.le_refl _) (by rw [hb4, hb3]; have := hcs.1; omega) hcellsOb
     refine ⟨.value (.slice (some ⟨M.w.heap.size, 0, none⟩) len len), _, ?_, rfl, hok, hext, _, rfl, clrO (Nat.beq (100 + d)) ob, ?_, ?_, ?_⟩
     ·have hn : ¬ (len * ie.sz > 2 ^ 24) := by omega
      have hpt : (parts.map fun (p : Nat × Operand) => (p.1, ρ p.2)).toList = parts.toList.map fun (p : Nat × Operand) => (p.1, ρ p.2) := by simp
      have hrun : (Instr.buildSlice t len (parts.map fun (i, x) => (i, ρ x))).run P M.w = .ok (.slice (some ⟨M.w.heap.size, 0, none⟩) len len) (M.w.alloc (.cells cs elem)) := by
       simp only [Instr.buildSlice, Sem.run_bind, run_underlying hu, Result.andThen_ok, sizeOf_run hF, if_neg hn]
       by_cases h0 : len * ie.sz = 0
       ·have hze := hzc0 h0
        subst hze
        simp only [if_pos h0, Sem.run_bind, Sem.run_pure, Result.andThen_ok, hpt, hfill, newRow, run_newObj]
        rfl
       ·have hze := hz2 h0
        subst hze
        simp only [if_neg h0, Sem.run_bind, zeroValue, typeInfo, run_program, g1, g4, Sem.run_pure, Result.andThen_ok, hpt, hfill, newRow, run_newObj]
        rfl
      simp only [execOp, ho, Sem.run_bind, hrun, Result.andThen_ok, Sem.run_pure]
     ·exact lk_ins_self _ _ _
     ·rw [clrO_len, hb4]; omega
     ·refine .inr ⟨M.w.heap.size, 0, 0, len, by simp, rfl, Nat.le_refl _, by simp only [maxLen]; omega, by omega, cs, elem, heap_alloc_new _ _, ?_⟩
      rw [clrO_sz, hb3, Nat.zero_add, Nat.zero_add]
      have := hcs.1
      omega
   ·cases h
  ·cases h
 ·cases h
theorem row_list {C : Nat → Nat → Value → Prop} (h : ∀ i, i < len → ∀ j, j < z → ∃ u, w.cell? ⟨b, off + (i * z + j), none⟩ = some u ∧ C i j u) :
  ∃ news : List Value, news.length = len * z ∧ (∀ (k : Nat) (v : Value), news[k]? = some v → w.cell? ⟨b, off + k, none⟩ = some v) ∧ ∀ i j, i < len → j < z → ∃ v, news[i * z + j]? = some v ∧ C i j v := by
 have hk : ∀ k, k < len * z → ∃ u, w.cell? ⟨b, off + k, none⟩ = some u ∧ C (k / z) (k % z) u := by
  intro k hk
  have hz : 0 < z := by
   rcases Nat.eq_zero_or_pos z with h0 | h0
   ·subst h0; simp at hk
   ·exact h0
  obtain ⟨u, h1, h2⟩ := h (k / z) (Nat.div_lt_of_lt_mul (by rw [Nat.mul_comm]; exact hk)) (k % z) (Nat.mod_lt _ hz)
  refine ⟨u, ?_, h2⟩
  rw [← h1]
  congr 3
  rw [Nat.mul_comm, Nat.div_add_mod]
 refine ⟨(List.range (len * z)).map fun k => (w.cell? ⟨b, off + k, none⟩).getD undef, by simp, fun k v hv => ?_, fun i j hi hj => ?_⟩
 ·simp only [List.getElem?_map, Option.map_eq_some_iff] at hv
  obtain ⟨k', hk', rfl⟩ := hv
  have hlt : k < len * z := by
   have := (List.getElem?_eq_some_iff.1 hk').1
   simpa using this
  have he : k' = k := by
   rw [List.getElem?_range hlt] at hk'
   exact (Option.some.inj hk').symm
  subst he
  obtain ⟨u, h1, _⟩ := hk _ hlt
  rw [h1]; rfl
 ·have hin : (i + 1) * z ≤ len * z := Nat.mul_le_mul_right _ hi
  rw [Nat.add_mul, Nat.one_mul] at hin
  have hlt : i * z + j < len * z := by omega
  obtain ⟨u, h1, h2⟩ := h i hi j hj
  refine ⟨u, ?_, h2⟩
  simp [List.getElem?_range hlt, h1]
def Src.cell (z : Nat) : Src → Nat → Nat → V1
 | .c0 c, i, j => c.cell i j
 | .c1 c, i, j => c.cell i j
 | .cells _ vs, i, j => vs.getD (i * z + j) .any
theorem app_ok (h : o.app src = some o') : GrowOk M o.len o.sz o'.len o'.sz o.cell o'.cell src.len (src.cell o.sz) := by
 unfold Obj.app at h
 split at h <;> (try simp only [Option.map_eq_some_iff] at h) <;> first | (cases h; done) | skip
 ·obtain ⟨c', hc, rfl⟩ := h
  exact (C0.app_ok hc).2
 ·obtain ⟨c', hc, rfl⟩ := h
  exact (C0.pushAll_ok hc).2
 ·obtain ⟨c', hc, rfl⟩ := h
  exact (C1.app_ok hc).2
 ·obtain ⟨c', hc, rfl⟩ := h
  exact (C1.pushAll_ok hc).2
theorem srcOf_sound {x : V1} {u : Value} (hM : MOk M) (h : srcOf M.H x = some src) (hz : sliceSz M.H z x = true) (hx : VR M x u) :
  ∃ A cap, u = .slice A src.len cap ∧ (A = none → src.len = 0) ∧
   ∃ news : List Value, news.length = src.len * z ∧ (∀ b off s, A = some ⟨b, off, s⟩ → src.len ≠ 0 → s = none ∧ ∀ (k : Nat) (v : Value), news[k]? = some v → M.w.cell? ⟨b, off + k, none⟩ = some v) ∧
    ∀ i j, i < src.len → j < z → ∃ v, news[i * z + j]? = some v ∧ v.oneCell' = true ∧ VR M (src.cell z i j) v := by
 cases x <;> simp only [srcOf] at h <;> first | (cases h; done) | skip
 case nils =>
  simp only [Option.some.injEq] at h
  subst h
  rw [show u = Value.slice none 0 0 from hx]
  exact ⟨none, 0, rfl, fun _ => rfl, [], by simp [Src.len], fun b off s _ h => absurd rfl h, fun i j hi => absurd hi (by simp [Src.len])⟩
 case ro c =>
  simp only [Option.some.injEq] at h
  subst h
  have hs := Nat.eq_of_beq_eq_true hz
  obtain ⟨A, cap, rfl, h1, h2, h3⟩ := hx
  refine ⟨A, cap, rfl, fun hA => ?_, ?_⟩
  ·rcases h3 with h3 | ⟨b, off, rfl, _⟩
   ·exact h3
   ·cases hA
  ·rcases h3 with h3 | ⟨b, off, rfl, hr⟩
   ·have h30 : (Src.c0 c).len = 0 := h3
    exact ⟨[], by simp [h30], fun b off s _ h => absurd h30 h, fun i j hi => by omega⟩
   ·obtain ⟨news, n1, n2, n3⟩ := row_list (w := M.w) (b := b) (off := off) (len := c.len) (z := c.sz) hr.2
    refine ⟨news, by rw [hs]; exact n1, fun b' off' s hA _ => ?_, fun i j hi hj => ?_⟩
    ·cases hA
     exact ⟨rfl, n2⟩
    ·rw [hs] at hj ⊢
     obtain ⟨v, hv1, hv2⟩ := n3 i j hi hj
     exact ⟨v, hv1, VR_oneCell (M := M) (C0_cell_VR hv2), C0_cell_VR hv2⟩
 case rs c =>
  simp only [Option.some.injEq] at h
  subst h
  have hs := Nat.eq_of_beq_eq_true hz
  obtain ⟨A, cap, rfl, h1, h2, h3⟩ := hx
  refine ⟨A, cap, rfl, fun hA => ?_, ?_⟩
  ·rcases h3 with h3 | ⟨b, off, rfl, _⟩
   ·exact h3
   ·cases hA
  ·rcases h3 with h3 | ⟨b, off, rfl, hr⟩
   ·have h30 : (Src.c1 c).len = 0 := h3
    exact ⟨[], by simp [h30], fun b off s _ h => absurd h30 h, fun i j hi => by omega⟩
   ·obtain ⟨news, n1, n2, n3⟩ := row_list (w := M.w) (b := b) (off := off) (len := c.len) (z := c.sz) hr.2
    refine ⟨news, by rw [hs]; exact n1, fun b' off' s hA _ => ?_, fun i j hi hj => ?_⟩
    ·cases hA
     exact ⟨rfl, n2⟩
    ·rw [hs] at hj ⊢
     obtain ⟨v, hv1, hv2⟩ := n3 i j hi hj
     exact ⟨v, hv1, VR_oneCell (M := M) (C1_cell_VR hv2), C1_cell_VR hv2⟩
 case rw id off len =>
  simp only [sliceSz] at hz
  obtain ⟨o, ho, hon, hv⟩ := hx
  rw [lk_none] at ho
  rw [ho] at h hz
  simp only at h hz
  have hs := Nat.eq_of_beq_eq_true hz
  have key : src.len = len → (∀ i j, i < len → j < z → src.cell z i j = o.cell (off + i) j) →
    ∃ A cap, u = .slice A src.len cap ∧ (A = none → src.len = 0) ∧
     ∃ news : List Value, news.length = src.len * z ∧ (∀ b off s, A = some ⟨b, off, s⟩ → src.len ≠ 0 → s = none ∧ ∀ (k : Nat) (v : Value), news[k]? = some v → M.w.cell? ⟨b, off + k, none⟩ = some v) ∧
      ∀ i j, i < src.len → j < z → ∃ v, news[i * z + j]? = some v ∧ v.oneCell' = true ∧ VR M (src.cell z i j) v := by
   intro hl hcell
   rw [hl]
   rcases hv with ⟨rfl, A, rfl⟩ | ⟨b, p, a, cap, hm, rfl, h1, h2, rfl, cur, e, hcur, hfit⟩
   ·exact ⟨A, 0, rfl, fun _ => rfl, [], by simp, fun b off s _ h => absurd rfl h, fun i j hi => by omega⟩
   ·obtain ⟨cur', e', k1, k2, k3⟩ := hM.obj (id, none) o b p ho hm
    obtain ⟨news, n1, n2, n3⟩ := row_list (w := M.w) (b := b) (off := p + off * o.sz) (len := len) (z := o.sz) (C := fun i j v => v.oneCell' = true ∧ VR M (o.cell (off + i) j) v) (fun i hi j hj => by
     obtain ⟨v, v1, v2, v3⟩ := k3 (off + i) (by omega) j hj
     refine ⟨v, ?_, v2, v3⟩
     rw [cell_of_row _ _ _ _ _ _ k1, ← v1]
     congr 1
     rw [Nat.add_mul]; omega)
    refine ⟨_, _, rfl, fun h => (by cases h), news, by rw [hs]; exact n1, fun b' off' s hA _ => ?_, fun i j hi hj => ?_⟩
    ·cases hA
     exact ⟨rfl, n2⟩
    ·rw [hcell i j hi hj]
     rw [hs] at hj ⊢
     obtain ⟨v, v1, v2, v3⟩ := n3 i j hi hj
     exact ⟨v, v1, v2, v3⟩
  cases o with
  | flat c =>
   simp only [Option.some.injEq] at h
   subst h
   simp only [nadd_eq] at *
   have hlc : (c.sub off (off + len)).len = len := by rw [C0.sub_len c off (off + len) hon]; omega
   exact key hlc (fun i j hi hj => by simp only [Src.cell, Obj.cell]; rw [C0.sub_cell _ _ _ _ _ (by omega)])
  | recs c =>
   simp only [Option.some.injEq] at h
   subst h
   simp only [nadd_eq] at *
   have hlc : (c.sub off (off + len)).len = len := by rw [C1.sub_len c off (off + len) hon]; omega
   exact key hlc (fun i j hi hj => by simp only [Src.cell, Obj.cell]; rw [C1.sub_cell _ _ _ _ _ (by omega)])
  | mat id' xss => cases h
  | tail pre xs => cases h
  | box n sz vs =>
   simp only [Option.some.injEq] at h
   subst h
   have hs' : z = sz := hs
   refine key rfl (fun i j hi hj => ?_)
   simp only [Src.cell, Obj.cell, List.getD_eq_getElem?_getD]
   have hin : (i + 1) * sz ≤ len * sz := Nat.mul_le_mul_right _ hi
   rw [Nat.add_mul, Nat.one_mul] at hin
   rw [List.getElem?_take, hs', if_pos (by omega), List.getElem?_drop]
   congr 2
   rw [Nat.add_mul]; omega
theorem firstCells_slice (hl : news.length = n * z) (hA : A = none → n = 0)
  (hn : ∀ b off s, A = some ⟨b, off, s⟩ → n ≠ 0 → s = none ∧ ∀ (k : Nat) (v : Value), news[k]? = some v → w.cell? ⟨b, off + k, none⟩ = some v) :
  (Builtin.firstCells z n (.slice A len cap)).run P w = .ok news.toArray w := by
 rcases Nat.eq_zero_or_pos n with h0 | h0
 ·subst h0
  have : news = [] := List.eq_nil_of_length_eq_zero (by simpa using hl)
  subst this
  cases A <;> simp [Builtin.firstCells, loadCells, loadCellsFrom]
 ·cases A with
  | none => have := hA rfl; omega
  | some a =>
   obtain ⟨b, off, s⟩ := a
   obtain ⟨rfl, hc⟩ := hn b off s rfl (by omega)
   exact run_firstCells_some (P := P) w z n ⟨b, off, none⟩ len cap news hl (fun j v hj => by rw [ptr_add]; exact hc j v hj)
theorem run_app_grow {zv : Value} (ht : P.underlying t = some (.slice e)) (hi : P.info? e = some ti) (hz : ti.zero = some zv) {olds : List Value} 
  (hs : ∀ w' : World, w'.heap = w.heap → (Builtin.firstCells ti.size len (.slice A len cap)).run P w' = .ok olds.toArray w') (hx : ∀ w' : World, w'.heap = w.heap → (Builtin.firstCells ti.size n (.slice Ax n capx)).run P w' = .ok news.toArray w')
  (hg : cap < len + n) (h63 : len + n ≤ 9223372036854775807) (hb : (len + n) * ti.bytes ≤ 140737488355328) :
  (Builtin.append_ #[t, t] ty #[.slice A len cap, .slice Ax n capx]).run P w =
   .ok (.slice (some ⟨w.heap.size, 0, none⟩) (len + n) (grownCap w (len + n) cap e)) (w.drew.alloc (.cells (olds.toArray ++ news.toArray ++ Builtin.zeroCells zv.cells (grownCap w (len + n) cap e - (len + n))) e)) := by
 have hn : ¬ (len + n ≤ cap) := by omega
 have h63' : ¬ (9223372036854775807 < ((len : Int) + (n : Int))) := by omega
 have hfit := growslice_fits (need := len + n) (old := cap) (bytes := ti.bytes) hg hb
 have h48' : ¬ (281474976710656 < Builtin.nextslicecap (len + n) cap * ti.bytes) := by omega
 simp [Builtin.append_, run_underlying ht, sizeOf, typeInfo, zeroValue, hi, hz, Builtin.lenOf, hn, h63', h48', Question.forced, hx w.drew rfl, hs w.drew rfl, newRow, grownCap]
 congr 2
 apply Array.ext'
 simp [List.append_assoc]
theorem run_app_stay (ht : P.underlying t = some (.slice e)) (hi : P.info? e = some ti) {a : Nat} {cur : Array Value} {te : TypeId}
  (hx : (Builtin.firstCells ti.size n (.slice Ax n capx)).run P w = .ok news.toArray w) (hg : len + n ≤ cap) (hcur : w.heap[b]? = some (.cells cur te (0, 0))) (hfit : a + len * ti.size + news.length ≤ cur.size) (h1 : ∀ v ∈ news, v.oneCell' = true) :
  (Builtin.append_ #[t, t] ty #[.slice (some ⟨b, a, none⟩) len cap, .slice Ax n capx]).run P w =
   .ok (.slice (some ⟨b, a, none⟩) (len + n) cap) (w.setRow b (cur.toList.take (a + len * ti.size) ++ news ++ cur.toList.drop (a + len * ti.size + news.length)).toArray) := by
 have hst := run_storeCells_at P b (a + len * ti.size) te news 0 cur w hcur (by simpa using hfit) h1
 simp only [Nat.add_zero] at hst
 simp [Builtin.append_, run_underlying ht, sizeOf, typeInfo, hi, Builtin.lenOf, hg, hx, Addr.add_lit, hst]
theorem run_app_none (ht : P.underlying t = some (.slice e)) (hi : P.info? e = some ti) 
  (hx : (Builtin.firstCells ti.size 0 (.slice Ax 0 capx)).run P w = .ok #[] w) :
  (Builtin.append_ #[t, t] ty #[.slice A 0 0, .slice Ax 0 capx]).run P w = .ok (.slice A 0 0) w := by
 cases A <;> simp [Builtin.append_, run_underlying ht, sizeOf, typeInfo, hi, Builtin.lenOf, hx, storeCells]
theorem from_ok (hbox : o.grows = true) (hl : off + len = o.len) :
  (cond (Nat.beq off 0) o (o.from_ off)).len = len ∧ (cond (Nat.beq off 0) o (o.from_ off)).sz = o.sz ∧ ∀ i j, i < len → (cond (Nat.beq off 0) o (o.from_ off)).cell i j = o.cell (off + i) j := by
 by_cases h0 : off = 0
 ·subst h0
  refine ⟨by simp []; omega, rfl, fun i j _ => by rw [Nat.zero_add]; rfl⟩
 ·rw [beq_ne h0]
  simp only [cond_false]
  cases o with
  | flat c =>
   have hh : off + len = c.len := hl
   refine ⟨by simp only [Obj.from_, Obj.len, C0.sub_len c off c.len (Nat.le_refl _)]; omega, by simp only [Obj.from_, Obj.sz, C0.sub_sz], fun i j hi => ?_⟩
   simp only [Obj.from_, Obj.cell]
   exact C0.sub_cell _ _ _ _ _ (by omega)
  | recs c =>
   have hh : off + len = c.len := hl
   refine ⟨by simp only [Obj.from_, Obj.len, C1.sub_len c off c.len (Nat.le_refl _)]; omega, by simp only [Obj.from_, Obj.sz, C1.sub_sz], fun i j hi => ?_⟩
   simp only [Obj.from_, Obj.cell]
   exact C1.sub_cell _ _ _ _ _ (by omega)
  | box => cases hbox
  | mat => cases hbox
  | tail => cases hbox
theorem app_clr (h : o.app src = some o') (X : Nat → Bool) : clrO X o' = o' := by
 unfold Obj.app at h
 split at h <;> (try simp only [Option.map_eq_some_iff] at h) <;> first | (cases h; done) | (obtain ⟨c', _, rfl⟩ := h; rfl)
theorem app_plain (h : o.app src = some o') : o'.plain = true := by
 unfold Obj.app at h
 split at h <;> (try simp only [Option.map_eq_some_iff] at h) <;> first | (cases h; done) | (obtain ⟨c', _, rfl⟩ := h; rfl)
theorem grow_sound {id : Nat} {zv : Value} {olds : List Value} {newCap : Nat} (hM : MOk M) (_hz : 1 ≤ o.sz) (happ : o.app src = some o') (hol : olds.length = o.len * o.sz)
  (holds : ∀ i j, i < o.len → j < o.sz → ∃ v, olds[i * o.sz + j]? = some v ∧ v.oneCell' = true ∧ VR M (o.cell i j) v) (hnl : news.length = src.len * o.sz)
  (hnews : ∀ i j, i < src.len → j < o.sz → ∃ v, news[i * o.sz + j]? = some v ∧ v.oneCell' = true ∧ VR M (src.cell o.sz i j) v) (hzs : zv.cells.size = o.sz) (hcap : o.len + src.len ≤ newCap) (hcm : newCap ≤ maxLen) :
  ∃ M' : Mem, M'.w = M.w.drew.alloc (.cells (olds.toArray ++ news.toArray ++ Builtin.zeroCells zv.cells (newCap - (o.len + src.len))) e) ∧ M'.H = ins id o' (mapV (clrO (Nat.beq id)) M.H) ∧ MOk M' ∧ Ext (Nat.beq id) M M' ∧
   VR M' (.rw id 0 (o.len + src.len)) (.slice (some ⟨M.w.heap.size, 0, none⟩) (o.len + src.len) newCap) := by
 have g := app_ok (M := M) happ
 have hsz : o'.sz = o.sz := g.sz
 have hlen : o'.len = o.len + src.len := g.len
 generalize hcur : olds.toArray ++ news.toArray ++ Builtin.zeroCells zv.cells (newCap - (o.len + src.len)) = cur
 have hcz : cur.size = newCap * o.sz := by
  rw [← hcur]
  simp only [Array.size_append, List.size_toArray, size_zeroCells, hol, hnl, hzs, ← Nat.add_mul]
  congr 1
  omega
 have hcell : ∀ i, i < o'.len → ∀ j, j < o'.sz → ∃ u, cur[i * o'.sz + j]? = some u ∧ u.oneCell' = true ∧ VR M (o'.cell i j) u := by
  intro i hi j hj
  rw [hlen] at hi
  rw [hsz] at hj ⊢
  by_cases hio : i < o.len
  ·obtain ⟨v, h1, h2, h3⟩ := holds i j hio hj
   refine ⟨v, ?_, h2, by rw [g.old i j hio]; exact h3⟩
   have hlt := (List.getElem?_eq_some_iff.1 h1).1
   rw [← hcur, Array.append_assoc, Array.getElem?_append_left (by simpa using hlt)]
   simpa using h1
  ·have hin : i - o.len < src.len := by omega
   obtain ⟨v, h1, h2, h3⟩ := hnews (i - o.len) j hin hj
   refine ⟨v, ?_, h2, ?_⟩
   ·have hlt := (List.getElem?_eq_some_iff.1 h1).1
    have hidx : i * o.sz + j = olds.length + ((i - o.len) * o.sz + j) := by
     rw [hol, ← Nat.add_assoc, ← Nat.add_mul]
     congr 2
     omega
    rw [← hcur, Array.append_assoc, Array.getElem?_append_right (by rw [hidx]; simp), hidx, Array.getElem?_append_left (by simp; omega)]
    simpa using h1
   ·have := g.new (i - o.len) j hin hj v h3
    rw [show o.len + (i - o.len) = i from by omega] at this
    exact this
 obtain ⟨hok, hext⟩ := alloc_bind hM id o' cur e M.w.drew (app_plain happ) rfl rfl rfl rfl (Nat.le_succ _) (by rw [hlen, hsz, hcz]; exact Nat.mul_le_mul_right _ hcap) hcell
 rw [app_clr happ] at hok hext
 refine ⟨_, rfl, rfl, hok, hext, o', ?_, by omega, ?_⟩
 ·exact lk_ins_self _ _ _
 ·refine .inr ⟨M.w.heap.size, 0, 0, newCap, by simp, rfl, hcap, hcm, by omega, cur, e, heap_alloc_new M.w.drew _, ?_⟩
  rw [hsz, hcz, Nat.zero_add, Nat.zero_add]
  exact Nat.le_refl _
theorem stAppend_sound {d : Nat} {a b : AV} {ua ub : Value} {o : Oper} {xs xx : Operand} (hT : ∀ t i, T t = some i → TF P t i) (hM : MOk M)
  (ho : o.op = .call { callee := .builtin .append, args := #[xs, xx], argTypes := #[t, t] }) (hxs : ρ xs = ua) (hxx : ρ xx = ub)
  (h : stAppend T M.H d t a b = some r) (ha : AVR M a ua) (hb : AVR M b ub) (hc : AllP r.cs) : MSound P M ρ o r := by
 unfold stAppend at h
 split at h
 ·rename_i s x
  split at h
  ·rename_i elem _ _ _ _ _ hi
   have hu := kind_slice (hT _ _ hi) rfl
   split at h
   ·rename_i ie hie
    have hF := hT _ _ hie
    split at h
    ·rename_i id ob full src hbase hsrc
     split at h
     ·rename_i o' happ
      have hl2 : len2 s ob.len src.len = ob.len + src.len := by
       cases s <;> try rfl
       simp only [appBase] at hbase
       split at hbase
       ·rename_i o1 _
        cases hz0 : Nat.beq o1.len 0
        ·rw [hz0] at hbase; cases hbase
        ·rw [hz0] at hbase
         simp only [cond_true, Option.some.injEq, Prod.mk.injEq] at hbase
         obtain ⟨_, rfl, _⟩ := hbase
         rw [Nat.eq_of_beq_eq_true hz0, Nat.zero_add]; rfl
       ·cases hbase
      rw [hl2] at h
      cases hb0 : (Nat.beq ob.sz ie.sz && Nat.ble 1 ie.sz && sliceSz M.H ie.sz x)
      ·rw [hb0] at h; cases h
      ·rw [hb0] at h
       simp only [cond_true, Option.some.injEq] at h
       subst h
       simp only [Bool.and_eq_true] at hb0
       obtain ⟨⟨hs0, hs1⟩, hs2⟩ := hb0
       have hsz : ob.sz = ie.sz := Nat.eq_of_beq_eq_true hs0
       have hz1 : 1 ≤ ie.sz := Nat.le_of_ble_eq_true hs1
       obtain ⟨hfull, hbytes, h63, _⟩ := hc
       obtain ⟨ti, zv, g1, g2, g3, g4, g5, g6⟩ := zero_len (M := M) hF
       obtain ⟨Ax, capx, hub, hAx, news, nl, nc, nv⟩ := srcOf_sound hM hsrc hs2 hb
       have nv' : ∀ i j, i < src.len → j < ob.sz → ∃ v, news[i * ob.sz + j]? = some v ∧ v.oneCell' = true ∧ VR M (src.cell ob.sz i j) v := by
        rw [hsz]; exact nv
       have n1 : ∀ v ∈ news, v.oneCell' = true := by
        intro v hv
        obtain ⟨k, hk⟩ := List.mem_iff_getElem?.1 hv
        have hlt := (List.getElem?_eq_some_iff.1 hk).1
        obtain ⟨v', hv', h1, _⟩ := nv (k / ie.sz) (k % ie.sz) (Nat.div_lt_of_lt_mul (by rw [Nat.mul_comm]; omega)) (Nat.mod_lt _ (by omega))
        rw [Nat.mul_comm, Nat.div_add_mod, hk] at hv'
        cases hv'
        exact h1
       have hx : ∀ w' : World, w'.heap = M.w.heap → (Builtin.firstCells ti.size src.len (.slice Ax src.len capx)).run P w' = .ok news.toArray w' := by
        intro w' hw'
        refine firstCells_slice (by rw [g2]; exact nl) hAx (fun b off s hA hne => ?_)
        obtain ⟨e1, e2⟩ := nc b off s hA hne
        exact ⟨e1, fun k v hk => (World.cell?_of_block (w := M.w) (w' := w') (a := ⟨b, off + k, none⟩) (by rw [hw'])).trans (e2 k v hk)⟩
       have hrunop : ∀ (v : Value) (w' : World), (Builtin.append_ #[t, t] o.type #[ua, ub]).run P M.w = .ok v w' → (execOp ρ o).run P M.w = .ok (.value v) w' := by
        intro v w' hr
        simp only [execOp, ho, resolve, Sem.run_bind, Sem.run_pure, Result.andThen_ok, invoke, builtin, List.map_toArray, List.map_cons, List.map_nil, hxs, hxx, hr]
       have hzs : zv.cells.size = ob.sz := by
        obtain ⟨ti', z', k1, k2, k3, k4, k5, k6⟩ := hF.info
        rw [hsz, hF.szz]
        exact g5
       have empty : ∀ A, ua = .slice A 0 0 → ob.len = 0 → MSound P M ρ o
         ⟨[full = fullLen M.H s, (ob.len + src.len) * ie.bytes ≤ 140737488355328, ob.len + src.len ≤ 9223372036854775807], some (.one (.rw id 0 (ob.len + src.len))), ins id o' (mapV (clrO (Nat.beq id)) M.H), some id⟩ := by
        intro A hua hol
        by_cases hn : src.len = 0
        ·obtain ⟨hok, hext⟩ := MOk_free hM id o' (app_plain happ) (by have := (app_ok (M := M) happ).len; omega)
         refine ⟨.value (.slice A 0 0), _, hrunop _ _ ?_, rfl, hok, hext, _, rfl, o', ?_, by omega, .inl ⟨by omega, A, rfl⟩⟩
         ·rw [hua, hub, hn]
          have hx0 := hx M.w rfl
          rw [hn] at hx0
          have : news = [] := List.eq_nil_of_length_eq_zero (by rw [nl, hn, Nat.zero_mul])
          rw [this] at hx0
          exact run_app_none (P := P) hu g1 hx0
         ·exact lk_ins_self _ _ _
        ·have hnewc : src.len ≤ grownCap M.w (0 + src.len) 0 elem := by have := grownCap_ge M.w (0 + src.len) 0 elem; omega
         have hncm := grownCap_le_maxLen M.w (0 + src.len) 0 elem (by simp only [maxLen]; omega)
         obtain ⟨M', hw', hH', hok, hext, hvr⟩ := grow_sound (id := id) (zv := zv) (e := elem) (olds := []) (news := news) (newCap := grownCap M.w (0 + src.len) 0 elem) hM (by omega) happ (by simp [hol]) (fun i j hi => by omega) (by rw [hsz]; exact nl) nv' hzs (by omega) hncm
         refine ⟨.value (.slice (some ⟨M.w.heap.size, 0, none⟩) (0 + src.len) (grownCap M.w (0 + src.len) 0 elem)), M', hrunop _ _ ?_, hH', hok, hext, _, rfl, ?_⟩
         ·rw [hua, hub, hw']
          have := run_app_grow (P := P) (w := M.w) (ty := o.type) hu g1 g4 (A := A) (Ax := Ax) (len := 0) (cap := 0) (n := src.len) (capx := capx) (olds := []) (news := news) (fun w' _ => by cases A <;> simp [Builtin.firstCells, loadCells, loadCellsFrom]) hx (by omega) (by omega) (by rw [g3]; have := hbytes; rw [hol] at this; exact this)
          rw [this, hol]
         ·rw [hol] at hvr ⊢
          exact hvr
       unfold appBase at hbase
       simp only [nadd_eq] at hbase
       split at hbase
       ·rename_i id0 off len
        split at hbase
        ·rename_i oo hoo
         cases hbx : oo.grows
         ·rw [hbx] at hbase; cases hbase
         ·rw [hbx] at hbase
          simp only [cond_true, Option.some.injEq, Prod.mk.injEq] at hbase
          obtain ⟨rfl, rfl, rfl⟩ := hbase
          have hfl : off + len = oo.len := by
           simp only [fullLen, hoo] at hfull
           exact hfull
          obtain ⟨f1, f2, f3⟩ := from_ok hbx hfl
          obtain ⟨oo', hoo', hon, hv⟩ := ha
          rw [lk_none, hoo] at hoo'
          cases hoo'
          rcases hv with ⟨rfl, A, hua⟩ | ⟨b, p, ad, cap, hm, hua, c1, c2, rfl, cur, e, hcur, hfit⟩
          ·exact empty A hua f1
          ·obtain ⟨cur', e', k1, k2, k3⟩ := hM.obj (id0, none) oo b p hoo hm
           rw [hcur] at k1
           simp only [Option.some.injEq, Obj.cells.injEq] at k1
           obtain ⟨rfl, rfl, _⟩ := k1
           generalize hobd : (bif Nat.beq off 0 then oo else oo.from_ off) = ob at *
           rw [f1] at hbytes h63 ⊢
           have hosz : oo.sz = ie.sz := by rw [← f2]; exact hsz
           by_cases hroom : len + src.len ≤ cap
           ·
            have hfit2 : p + off * oo.sz + len * oo.sz + news.length ≤ cur.size := by
             rw [nl, ← hosz]
             have h9 : (len + src.len) * oo.sz ≤ cap * oo.sz := Nat.mul_le_mul_right _ hroom
             rw [Nat.add_mul] at h9
             rw [Nat.add_mul] at hfit
             omega
            have hrun := run_app_stay (P := P) (w := M.w) (ty := o.type) hu g1 (b := b) (a := p + off * oo.sz) (Ax := Ax) (len := len) (cap := cap) (n := src.len) (capx := capx) (hx M.w rfl) hroom hcur (by rw [g2, ← hosz]; exact hfit2) n1
            rw [g2, ← hosz] at hrun
            generalize hcc : (cur.toList.take (p + off * oo.sz + len * oo.sz) ++ news ++ cur.toList.drop (p + off * oo.sz + len * oo.sz + news.length)).toArray = cur2 at hrun
            have hc2s : cur2.size = cur.size := by
             rw [← hcc]; simp; omega
            have g := app_ok (M := M) happ
            obtain ⟨hok, hext⟩ := MOk_bind hM id0 o' b (p + off * oo.sz) cur2 e (M.w.setRow b cur2) (app_plain happ) rfl rfl rfl (Nat.le_refl _) (by simp) (fun k hk hne => setRow_other _ _ _ _ hne) (setRow_heap _ _ _ _ _ _ hcur)
             (fun y oy q hy hmy => hM.inj y (id0, none) oy oo b q p hy hoo hmy hm) (.inr ⟨oo, p, hoo, hm⟩)
             (by rw [g.len, g.sz, f1, f2, hc2s]
                 have h9 : (len + src.len) * oo.sz ≤ cap * oo.sz := Nat.mul_le_mul_right _ hroom
                 rw [Nat.add_mul] at hfit
                 omega)
             (fun i hi j hj => by
              rw [g.len, f1] at hi
              rw [g.sz, f2] at hj ⊢
              have hat : ∀ k, cur2[k]? = if p + off * oo.sz + len * oo.sz ≤ k ∧ k < p + off * oo.sz + len * oo.sz + news.length then news[k - (p + off * oo.sz + len * oo.sz)]? else cur[k]? := by
               intro k
               rw [← hcc, List.getElem?_toArray, splice_at _ _ _ _ (by simpa using hfit2)]
               simp
              rw [hat]
              by_cases hio : i < len
              ·have h9 : (i + 1) * oo.sz ≤ len * oo.sz := Nat.mul_le_mul_right _ hio
               rw [Nat.add_mul, Nat.one_mul] at h9
               rw [if_neg (by omega)]
               obtain ⟨v, v1, v2, v3⟩ := k3 (off + i) (by omega) j hj
               refine ⟨v, ?_, v2, by rw [g.old i j (by omega), f3 i j hio]; exact v3⟩
               rw [← v1]
               congr 1
               rw [Nat.add_mul]; omega
              ·have hin : i - len < src.len := by omega
               obtain ⟨v, v1, v2, v3⟩ := nv' (i - len) j hin (by rw [f2]; exact hj)
               have hlt := (List.getElem?_eq_some_iff.1 v1).1
               rw [f2] at v1 hlt
               have hidx : p + off * oo.sz + (i * oo.sz + j) = p + off * oo.sz + len * oo.sz + ((i - len) * oo.sz + j) := by
                have : i * oo.sz = len * oo.sz + (i - len) * oo.sz := by rw [← Nat.add_mul]; congr 1; omega
                omega
               rw [hidx, if_pos (by omega)]
               refine ⟨v, by rw [← v1]; congr 1; omega, v2, ?_⟩
               have := g.new (i - len) j hin (by rw [f2]; exact hj) v v3
               rw [f1, show len + (i - len) = i from by omega] at this
               exact this)
            rw [app_clr happ] at hok hext
            refine ⟨.value (.slice (some ⟨b, p + off * oo.sz, none⟩) (len + src.len) cap), _, hrunop _ _ (by rw [hua, hub]; exact hrun), rfl, hok, hext, _, rfl, o', ?_, ?_, ?_⟩
            ·exact lk_ins_self _ _ _
            ·rw [g.len, f1]; omega
            ·refine .inr ⟨b, p + off * oo.sz, p + off * oo.sz, cap, by simp, rfl, hroom, c2, by omega, cur2, e, setRow_heap _ _ _ _ _ _ hcur, ?_⟩
             rw [g.sz, f2, hc2s, Nat.zero_add]
             rw [Nat.add_mul] at hfit
             omega
           ·
            have hcap : cap < len + src.len := by omega
            obtain ⟨olds, ol, oc, ov⟩ := row_list (w := M.w) (b := b) (off := p + off * oo.sz) (len := len) (z := oo.sz) (C := fun i j v => v.oneCell' = true ∧ VR M (oo.cell (off + i) j) v) (fun i hi j hj => by
             obtain ⟨v, v1, v2, v3⟩ := k3 (off + i) (by omega) j hj
             refine ⟨v, ?_, v2, v3⟩
             rw [cell_of_row _ _ _ _ _ _ hcur, ← v1]
             congr 1
             rw [Nat.add_mul]; omega)
            have hgc := grownCap_ge M.w (len + src.len) cap elem
            have hncm := grownCap_le_maxLen M.w (len + src.len) cap elem (by simp only [maxLen]; omega)
            obtain ⟨M', hw', hH', hok, hext, hvr⟩ := grow_sound (id := id0) (zv := zv) (e := elem) (olds := olds) (news := news) (newCap := grownCap M.w (len + src.len) cap elem) hM (by omega) happ (by rw [f1, f2]; exact ol)
             (fun i j hi hj => by
              rw [f1] at hi
              rw [f2] at hj ⊢
              obtain ⟨v, v1, v2, v3⟩ := ov i j hi hj
              exact ⟨v, v1, v2, by rw [f3 i j hi]; exact v3⟩) (by rw [hsz]; exact nl) nv' hzs (by omega) hncm
            refine ⟨.value (.slice (some ⟨M.w.heap.size, 0, none⟩) (len + src.len) (grownCap M.w (len + src.len) cap elem)), M', hrunop _ _ ?_, hH', hok, hext, _, rfl, ?_⟩
            ·rw [hua, hub, hw']
             have hs : ∀ w' : World, w'.heap = M.w.heap → (Builtin.firstCells ti.size len (.slice (some ⟨b, p + off * oo.sz, none⟩) len cap)).run P w' = .ok olds.toArray w' := by
              intro w' hw'
              refine firstCells_slice (by rw [g2, ← hosz]; exact ol) (fun h => (by cases h)) (fun b' off' s' hA hne => ?_)
              cases hA
              exact ⟨rfl, fun k v hk => (World.cell?_of_block (w := M.w) (w' := w') (a := ⟨b, p + off * oo.sz + k, none⟩) (by rw [hw'])).trans (oc k v hk)⟩
             have := run_app_grow (P := P) (w := M.w) (ty := o.type) hu g1 g4 hs hx hcap h63 (by rw [g3]; exact hbytes)
             rw [this, f1]
            ·rw [f1] at hvr
             exact hvr
        ·cases hbase
       ·split at hbase
        ·rename_i oe hoe
         cases hbl : Nat.beq oe.len 0
         ·rw [hbl] at hbase; cases hbase
         ·rw [hbl] at hbase
          simp only [cond_true, Option.some.injEq, Prod.mk.injEq] at hbase
          obtain ⟨rfl, rfl, rfl⟩ := hbase
          exact empty none ha (Nat.eq_of_beq_eq_true hbl)
        ·cases hbase
       ·cases hbase
     ·cases h
    ·cases h
   ·cases h
  ·cases h
 ·cases h
theorem getD_el (xs : List Int) (i : Nat) (h : i < xs.length) : xs.getD i 0 = xs[i] := by simp [List.getD_eq_getElem?_getD, List.getElem?_eq_getElem h]
theorem MOk_copy {M : Mem} (hM : MOk M) {id p : Nat} {k : IntKind} {xs ys : List Int} {cur : Array Value} (hl : look id M.H = some (.flat (.ints k xs))) (hμ : M.μ (id, none) = some (b, p)) (hfit : off + ys.length ≤ xs.length) (hcur : M.w.heap[b]? = some (.cells cur e (0, 0))) :
  p + off + ys.length ≤ cur.size ∧
  MOk ⟨M.μ, ins id (.flat (.ints k (xs.take off ++ ys ++ xs.drop (off + ys.length)))) M.H, M.w.setRow b (cur.toList.take (p + off) ++ ys.map (Value.int k) ++ cur.toList.drop (p + off + (ys.map (Value.int k)).length)).toArray, M.free⟩ ∧
  Ext noX M ⟨M.μ, ins id (.flat (.ints k (xs.take off ++ ys ++ xs.drop (off + ys.length)))) M.H, M.w.setRow b (cur.toList.take (p + off) ++ ys.map (Value.int k) ++ cur.toList.drop (p + off + (ys.map (Value.int k)).length)).toArray, M.free⟩ := by
 obtain ⟨cur0, e0, g1, g2, g3⟩ := hM.obj (id, none) _ b p hl hμ
 rw [hcur] at g1
 simp only [Option.some.injEq, Obj.cells.injEq] at g1
 obtain ⟨rfl, rfl, _⟩ := g1
 have g2' : p + xs.length * 1 ≤ cur.size := g2
 have hf : p + off + ys.length ≤ cur.size := by omega
 refine ⟨hf, ?_⟩
 have hml : (ys.map (Value.int k)).length = ys.length := List.length_map _
 have hlen' : (xs.take off ++ ys ++ xs.drop (off + ys.length)).length = xs.length := by simp; omega
 have hget : ∀ i, (xs.take off ++ ys ++ xs.drop (off + ys.length)).getD i 0 = if off ≤ i ∧ i < off + ys.length then ys.getD (i - off) 0 else xs.getD i 0 := by
  intro i
  simp only [List.getD_eq_getElem?_getD]
  by_cases h1 : i < off
  ·rw [if_neg (by omega), List.append_assoc, List.getElem?_append_left (by rw [List.length_take]; omega), List.getElem?_take, if_pos h1]
  ·by_cases h2 : i < off + ys.length
   ·rw [if_pos (by omega), List.append_assoc, List.getElem?_append_right (by rw [List.length_take]; omega), List.getElem?_append_left (by rw [List.length_take]; omega), List.length_take, Nat.min_eq_left (by omega)]
   ·rw [if_neg (by omega), List.getElem?_append_right (by simp only [List.length_append, List.length_take]; omega), List.getElem?_drop]
    simp only [List.length_append, List.length_take]
    congr 2
    omega
 have hrow : ∀ r, lk M.H (id, some r) = none := by
  intro r
  unfold lk
  simp only [hl]
 have hback : ∀ x ox, x ≠ (id, none) → lk (ins id (.flat (.ints k (xs.take off ++ ys ++ xs.drop (off + ys.length)))) M.H) x = some ox → lk M.H x = some ox := by
  intro x ox hx h
  by_cases h1 : x.1 = id
  ·obtain ⟨x1, r⟩ := x
   simp only at h1
   subst h1
   cases r with
   | none => exact absurd rfl hx
   | some r => rw [lk_ins_row rfl] at h; cases h
  ·rw [lk_ins_ne h1] at h; exact h
 have hforth : ∀ x ox, x ≠ (id, none) → lk M.H x = some ox → lk (ins id (.flat (.ints k (xs.take off ++ ys ++ xs.drop (off + ys.length)))) M.H) x = some ox := by
  intro x ox hx h
  by_cases h1 : x.1 = id
  ·obtain ⟨x1, r⟩ := x
   simp only at h1
   subst h1
   cases r with
   | none => exact absurd rfl hx
   | some r => rw [hrow] at h; cases h
  ·rw [lk_ins_ne h1]; exact h
 have hself := lk_ins_self M.H id (.flat (.ints k (xs.take off ++ ys ++ xs.drop (off + ys.length))))
 have hlook : ∀ x ox, lk (ins id (.flat (.ints k (xs.take off ++ ys ++ xs.drop (off + ys.length)))) M.H) x = some ox → ∃ o1, lk M.H x = some o1 := by
  intro x ox h
  by_cases hx : x = (id, none)
  ·subst hx; exact ⟨_, hl⟩
  ·exact ⟨ox, hback x ox hx h⟩
 have hne : ∀ x o1 b' q, lk M.H x = some o1 → M.μ x = some (b', q) → x ≠ (id, none) → b' ≠ b := by
  rintro x o1 b' q h1 h2 hx rfl
  exact hx (hM.inj x (id, none) o1 _ b' q p h1 hl h2 hμ)
 have hext : Ext noX M ⟨M.μ, ins id (.flat (.ints k (xs.take off ++ ys ++ xs.drop (off + ys.length)))) M.H, M.w.setRow b (cur.toList.take (p + off) ++ ys.map (Value.int k) ++ cur.toList.drop (p + off + (ys.map (Value.int k)).length)).toArray, M.free⟩ := by
  refine ⟨⟨rfl, rfl, rfl, Nat.le_refl _, by simp, fun k hk hlv => ⟨setRow_other _ _ _ _ (by rintro rfl; exact hlv ⟨(id, none), _, p, hl, hμ⟩), ?_⟩, fun _ h => h, fun _ h => .inl h⟩, fun x ox _ hx => ?_⟩
  ·rintro ⟨x, ox, q, h1, h2⟩
   obtain ⟨o1, h3⟩ := hlook x ox h1
   exact hlv ⟨x, o1, q, h3, h2⟩
  ·by_cases hxi : x = (id, none)
   ·subst hxi
    rw [lk_none, hl] at hx
    cases hx
    refine ⟨_, hself, rfl, by show xs.length ≤ (xs.take off ++ ys ++ xs.drop (off + ys.length)).length; omega, rfl, fun b' q cur' e' hm hc' => ?_⟩
    rw [hμ] at hm
    cases hm
    rw [hcur] at hc'
    cases hc'
    exact ⟨_, setRow_heap _ _ _ _ _ _ hcur, by simp; omega⟩
   ·exact ⟨ox, hforth x ox hxi hx, rfl, Nat.le_refl _, rfl, fun b' q cur' e' hm hc' => ⟨cur', (setRow_other _ _ _ _ (hne x ox b' q hx hm hxi)).trans hc', rfl⟩⟩
 refine ⟨⟨hM.named.insP rfl, fun k hk => ⟨Nat.lt_of_lt_of_le (hM.fr k hk).1 hext.size, (hext.still k (hM.fr k hk).1 (hM.fr k hk).2).2⟩, fun x y ox oy b' q r hx hy hmx hmy => ?_, fun x ox hx hm => ?_, fun x ox b' q hx hm => ?_⟩, hext⟩
 ·obtain ⟨o1, h1⟩ := hlook x ox hx
  obtain ⟨o2, h2⟩ := hlook y oy hy
  exact hM.inj x y o1 o2 b' q r h1 h2 hmx hmy
 ·by_cases hxi : x = (id, none)
  ·subst hxi
   have hm' : M.μ (id, none) = none := hm
   rw [hμ] at hm'
   cases hm'
  ·exact hM.none_ x ox (hback x ox hxi hx) hm
 ·have hm' : M.μ x = some (b', q) := hm
  by_cases hxi : x = (id, none)
  ·subst hxi
   have hx' : lk (ins id (.flat (.ints k (xs.take off ++ ys ++ xs.drop (off + ys.length)))) M.H) (id, none) = some ox := hx
   rw [hself] at hx'
   cases hx'
   rw [hμ] at hm'
   cases hm'
   refine ⟨_, e, setRow_heap _ _ _ _ _ _ hcur, ?_, fun i' hi' j' hj' => ?_⟩
   ·show p + (xs.take off ++ ys ++ xs.drop (off + ys.length)).length * 1 ≤ _
    rw [hlen']; simp; omega
   have hi2 : i' < xs.length := by rw [← hlen']; exact hi'
   have hj2 : j' < 1 := hj'
   obtain rfl : j' = 0 := by omega
   rw [List.getElem?_toArray, splice_at _ _ _ _ (by rw [hml]; simpa using hf)]
   show ∃ u, (if p + off ≤ p + (i' * 1 + 0) ∧ p + (i' * 1 + 0) < p + off + (ys.map (Value.int k)).length then (ys.map (Value.int k))[p + (i' * 1 + 0) - (p + off)]? else cur.toList[p + (i' * 1 + 0)]?) = some u ∧ u.oneCell' = true ∧ VR _ (.int k ((xs.take off ++ ys ++ xs.drop (off + ys.length)).getD i' 0)) u
   rw [hget]
   by_cases hin' : off ≤ i' ∧ i' < off + ys.length
   ·rw [if_pos (by omega), if_pos hin', show p + (i' * 1 + 0) - (p + off) = i' - off by omega, List.getElem?_map, List.getElem?_eq_getElem (by omega)]
    refine ⟨_, rfl, rfl, ?_⟩
    rw [getD_el ys (i' - off) (by omega)]
    rfl
   ·rw [if_neg (by omega), if_neg hin']
    obtain ⟨u, h1, h2, h3⟩ := g3 i' hi2 0 (by show 0 < 1; omega)
    have h1' : cur[p + (i' * 1 + 0)]? = some u := h1
    exact ⟨u, by simpa using h1', h2, VR_ext0 hext h3⟩
  ·have h1 := hback x ox hxi hx
   obtain ⟨cur1, e1, k1, k2, k3⟩ := hM.obj x ox b' q h1 hm'
   refine ⟨cur1, e1, (setRow_other _ _ _ _ (hne x ox b' q h1 hm' hxi)).trans k1, k2, fun i' hi' j' hj' => ?_⟩
   obtain ⟨u, g1, g2, g3⟩ := k3 i' hi' j' hj'
   exact ⟨u, g1, g2, VR_ext0 hext g3⟩
theorem MOk_look {M : Mem} (hM : MOk M) {H : Heap} (hl : ∀ x, look x H = look x M.H) : MOk ⟨M.μ, H, M.w, M.free⟩ ∧ Ext noX M ⟨M.μ, H, M.w, M.free⟩ := by
 have hlk : ∀ k, lk H k = lk M.H k := by
  intro ⟨x, r⟩
  cases r <;> simp only [lk, hl]
 have hlive : ∀ b, (Mem.mk M.μ H M.w M.free).live b ↔ M.live b := by intro b; simp only [Mem.live, hlk]
 have he : Ext noX M ⟨M.μ, H, M.w, M.free⟩ := ⟨⟨rfl, rfl, rfl, Nat.le_refl _, Nat.le_refl _, fun b _ h => ⟨rfl, fun q => h ((hlive b).1 q)⟩, fun b h => h, fun b h => .inl h⟩, fun x o _ h => ⟨o, by rw [hlk]; exact h, rfl, Nat.le_refl _, rfl, fun b p cur e _ hc => ⟨cur, hc, rfl⟩⟩⟩
 refine ⟨⟨fun x id xss h => hM.named x id xss (by rw [← hl]; exact h), fun b hb => ⟨(hM.fr b hb).1, fun q => (hM.fr b hb).2 ((hlive b).1 q)⟩, fun x y o o' b p q h1 h2 => hM.inj x y o o' b p q (by rw [← hlk]; exact h1) (by rw [← hlk]; exact h2), fun x o h1 => hM.none_ x o (by rw [← hlk]; exact h1), fun x o b p h1 h2 => ?_⟩, he⟩
 obtain ⟨cur, e, g1, g2, g3⟩ := hM.obj x o b p (by rw [← hlk]; exact h1) h2
 exact ⟨cur, e, g1, g2, fun i hi j hj => let ⟨u, a1, a2, a3⟩ := g3 i hi j hj; ⟨u, a1, a2, VR_ext0 he a3⟩⟩
theorem stCopy_sound {t2 : TypeId} {a b : AV} {ua ub : Value} {o : Oper} {xo yo : Operand} (hT : ∀ t i, T t = some i → TF P t i) (hM : MOk M)
  (ho : o.op = .call { callee := .builtin .copy, args := #[xo, yo], argTypes := #[t, t2] }) (hxs : ρ xo = ua) (hxx : ρ yo = ub)
  (h : stCopy T M.H t a b = some r) (ha : AVR M a ua) (hb : AVR M b ub) (hc : AllP r.cs) : MSound P M ρ o r := by
 unfold stCopy at h
 split at h
 ·rename_i A off len v
  split at h
  ·rename_i elem _ _ _ _ _ hi
   have hu := kind_slice (hT _ _ hi) rfl
   split at h
   ·rename_i ie kk xs k2 ys hie hA hs
    cases hb0 : (kEq kk k2 && Nat.beq ie.sz 1 && sliceSz M.H 1 v)
    ·rw [hb0] at h; cases h
    ·rw [hb0] at h
     simp only [cond_true, Option.some.injEq] at h
     subst h
     simp only [Bool.and_eq_true] at hb0
     obtain ⟨⟨hk, hz⟩, hs2⟩ := hb0
     have hk2 := of_decide_eq_true hk
     subst hk2
     have hsz1 := Nat.eq_of_beq_eq_true hz
     obtain ⟨tj, zv, q1, q2, q3, q4, q5, q6⟩ := zero_len (M := M) (hT _ _ hie)
     generalize hn : min ys.length len = n
     obtain ⟨Ay, capy, huy, hAy, news, nl, nc, nv⟩ := srcOf_sound hM hs hs2 hb
     have nl' : news.length = ys.length := by rw [nl]; exact Nat.mul_one _
     have hnews : ∀ i, i < ys.length → news[i]? = some (.int kk (ys.getD i 0)) := by
      intro i hi
      obtain ⟨w, h1, _, h3⟩ := nv i 0 hi (by omega)
      rw [Nat.mul_one, Nat.add_zero] at h1
      rw [h1]
      exact congrArg some (VR_int (M := M) (k := kk) (n := ys.getD i 0) h3)
     obtain ⟨oA, hlA, hon, hcase⟩ := ha
     rw [lk_none, hA] at hlA
     cases hlA
     have hon' : off + len ≤ xs.length := hon
     rcases hcase with ⟨h0, A0, hux⟩ | ⟨b, p, ad, cap, hm, hux, c1, c2, hoff, cur, e, hcur, hfit⟩
     ·have hn0 : n = 0 := by omega
      subst hn0
      have hlook : ∀ x, look x (ins A (.flat (.ints kk (xs.take off ++ ys.take 0 ++ xs.drop (off + 0)))) M.H) = look x M.H := by
       intro x
       rw [look_ins]
       split
       ·rename_i q; rw [q, hA]; simp
       ·rfl
      obtain ⟨k2, k3⟩ := MOk_look hM hlook
      have hfc : (Builtin.firstCells tj.size 0 (.slice Ay ys.length capy)).run P M.w = .ok #[] M.w :=
       firstCells_slice (news := []) (by simp) (fun _ => rfl) (fun _ _ _ _ h => absurd rfl h)
      have huy' : ub = .slice Ay ys.length capy := huy
      have hrun : (execOp ρ o).run P M.w = .ok (.value (.int .i64 (0 : Nat))) M.w := by
       simp only [execOp, ho, resolve, Sem.run_bind, Sem.run_pure, Result.andThen_ok, invoke, builtin, List.map_toArray, List.map_cons, List.map_nil, hxs, hxx, hux, huy']
       have hmin : Nat.min ys.length 0 = 0 := by simp
       cases A0 <;> simp [Builtin.copy_, run_underlying hu, sizeOf, typeInfo, q1, Builtin.lenOf, hmin, hfc, storeCells, goInt]
      exact ⟨_, ⟨M.μ, ins A (.flat (.ints kk (xs.take off ++ ys.take 0 ++ xs.drop (off + 0)))) M.H, M.w, M.free⟩, hrun, rfl, k2, k3, _, rfl, rfl⟩
     have had : ad = p + off := by rw [hoff]; show p + off * 1 = _; omega
     subst had
     have hnl : (ys.take n).length = n := by rw [List.length_take]; omega
     obtain ⟨k1, k2, k3⟩ := MOk_copy (off := off) (ys := ys.take n) hM hA hm (by rw [hnl]; omega) hcur
     have hml : ((ys.take n).map (Value.int kk)).length = n := by rw [List.length_map, hnl]
     have hnt : news.take n = (ys.take n).map (Value.int kk) := by
      refine List.ext_getElem? fun i => ?_
      by_cases hi : i < n
      ·rw [List.getElem?_take, if_pos hi, hnews i (by omega), List.getElem?_map, List.getElem?_take, if_pos hi, List.getElem?_eq_getElem (by omega), getD_el ys i (by omega)]
       rfl
      ·rw [List.getElem?_eq_none (by rw [List.length_take]; omega), List.getElem?_eq_none (by rw [hml]; omega)]
     have hfc : (Builtin.firstCells tj.size n (.slice Ay ys.length capy)).run P M.w = .ok ((ys.take n).map (Value.int kk)).toArray M.w := by
      rw [← hnt]
      refine firstCells_slice (by rw [q2, hsz1, List.length_take]; omega) (fun h => by have := hAy h; have h2 : (Src.c0 (.ints kk ys)).len = ys.length := rfl; omega) (fun b' off' s' hA' hne => ?_)
      obtain ⟨e1, e2⟩ := nc b' off' s' hA' (by show ys.length ≠ 0; omega)
      refine ⟨e1, fun i w hw => e2 i w ?_⟩
      rw [List.getElem?_take] at hw
      split at hw
      ·exact hw
      ·cases hw
     have hst := run_storeCells_at P b (p + off) e ((ys.take n).map (Value.int kk)) 0 cur M.w hcur (by rw [hml]; rw [hnl] at k1; simpa using k1) (by
      intro w hw
      obtain ⟨z, _, rfl⟩ := List.mem_map.1 hw
      rfl)
     simp only [Nat.add_zero] at hst
     have huy' : ub = .slice Ay ys.length capy := huy
     have hrun : (execOp ρ o).run P M.w = .ok (.value (.int .i64 n)) (M.w.setRow b (cur.toList.take (p + off) ++ (ys.take n).map (Value.int kk) ++ cur.toList.drop (p + off + ((ys.take n).map (Value.int kk)).length)).toArray) := by
      have hmin : Nat.min ys.length len = n := hn
      generalize (ys.take n).map (Value.int kk) = cs at hfc hst ⊢
      simp only [execOp, ho, resolve, Sem.run_bind, Sem.run_pure, Result.andThen_ok, invoke, builtin, List.map_toArray, List.map_cons, List.map_nil, hxs, hxx, hux, huy']
      simp [Builtin.copy_, run_underlying hu, sizeOf, typeInfo, q1, Builtin.lenOf, hmin, hfc, hst, goInt]
     refine ⟨_, _, hrun, ?_, k2, k3, _, rfl, rfl⟩
     rw [hnl]
   ·cases h
  ·cases h
 ·cases h
theorem stepMem_sound {ev : Operand → Option AV} {o : Oper} (hT : ∀ t i, T t = some i → TF P t i) (hM : MOk M) (hev : ∀ x v, ev x = some v → AVR M v (ρ x))
  (h : stepMem T M.H ev o.dst o.op = some r) (hc : AllP r.cs) : MSound P M ρ o r := by
 cases ho : o.op <;> rw [ho] at h <;> simp only [stepMem] at h <;> first | (cases h; done) | skip
 case alloc t =>
  split at h
  ·rename_i d hd
   cases hti : T t with
   | none => simp only [stNew, hti] at h; cases h
   | some ti =>
    obtain ⟨z, hz, _, _, hzc⟩ := zero_cells (M := M) (hT _ _ hti) M.w
    refine stNew_sound (val := z) hT hM h (fun ti' cs h1 h2 => ?_) ?_
    ·rw [hti] at h1
     cases h1
     cases h2
     exact hzc
    ·simp only [execOp, ho, Instr.alloc, Sem.run_bind, hz, Result.andThen_ok, newVar, newRow, run_newObj, Sem.run_pure]
     rfl
  ·cases h
 case box t x =>
  split at h
  ·rename_i d v hd hv
   refine stNew_sound (val := ρ x) hT hM h (fun ti cs h1 h2 => ?_) ?_
   ·split at h2
    ·rename_i vs hvs
     cases hb : Nat.beq vs.length ti.sz
     ·rw [hb] at h2; cases h2
     ·rw [hb] at h2
      simp only [cond_true, Option.some.injEq] at h2
      subst h2
      exact CellsR_cells (hev _ _ hv) hvs
    ·cases h2
   ·simp only [execOp, ho, Instr.box, Sem.run_bind, newVar, newRow, run_newObj, Result.andThen_ok, Sem.run_pure]
    rfl
  ·cases h
 case buildSlice t n parts =>
  split at h
  ·exact stBuildSlice_sound hT hM hev ho h
  ·cases h
 case load t x =>
  split at h
  ·rename_i a ha
   split at h
   ·rename_i cs v hv
    simp only [Option.some.injEq] at h
    subst h
    obtain ⟨u, hu, hvr⟩ := stLoad_sound (P := P) hT hM hv (hev _ _ ha) hc
    exact ⟨.value u, M, by simp only [execOp, ho, Sem.run_bind, hu, Result.andThen_ok, Sem.run_pure], rfl, hM, Ext.refl _ _, u, rfl, hvr⟩
   ·cases h
  ·cases h
 case store t a v =>
  split at h
  ·rename_i p u hp hu
   exact stStore_sound hT hM ho rfl rfl h (hev _ _ hp) (hev _ _ hu) hc
  ·cases h
 case makeSlice t l c =>
  split at h
  ·rename_i d a b hd ha hb
   exact stMake_sound hT hM ho rfl rfl h (hev _ _ ha) (hev _ _ hb) hc
  ·cases h
 case call c =>
  obtain ⟨callee, args, types⟩ := c
  obtain ⟨args⟩ := args
  obtain ⟨types⟩ := types
  simp only at h
  split at h
  ·rename_i d s x t t' hd
   split at h
   ·rename_i a b ha hb
    cases htt : Nat.beq t t'
    ·rw [htt] at h; cases h
    ·rw [htt] at h
     have e := Nat.eq_of_beq_eq_true htt
     subst e
     exact stAppend_sound hT hM ho rfl rfl h (hev _ _ ha) (hev _ _ hb) hc
   ·cases h
  ·rename_i d s x t t' hd
   split at h
   ·rename_i a b ha hb
    exact stCopy_sound hT hM ho rfl rfl h (hev _ _ ha) (hev _ _ hb) hc
   ·cases h
  ·cases h
end
end Go.Ab
namespace Go.Ab
variable {v : AV} {g : Bool} {s : St} {a : Act} {M : Mem} {o : Oper} {P : Program} {T : Nat → Option TI}
def tmpsOf : List Operand → List Nat
 | [] => []
 | .tmp t :: r => t :: tmpsOf r
 | _ :: r => tmpsOf r
def hasN (t : Nat) : List Nat → Bool
 | [] => false
 | u :: r => cond (Nat.beq u t) true (hasN t r)
def St.ev (s : St) (g : Bool) (ts : List Nat) (x : Operand) : Option AV :=
 match s.raw x with
 | some (.whn g' v) => (match x with | .tmp t => cond (hasN t ts) (some (strip g (.whn g' v)).2) none | _ => none)
 | r => r
def St.owed (s : St) (g : Bool) : List Nat → List Prop
 | [] => []
 | t :: r =>
  (match look t s.tm with
  | some v => (strip g v).1 ++ s.owed g r
  | none => s.owed g r)
theorem owed_at {t : Nat} : ∀ {ts : List Nat}, AllP (s.owed g ts) → hasN t ts = true → look t s.tm = some v → AllP (strip g v).1
 | [], _, h, _ => by cases h
 | u :: r, hc, h, hl => by
  unfold hasN at h
  cases hb : Nat.beq u t
  ·rw [hb] at h
   simp only [cond_false] at h
   unfold St.owed at hc
   split at hc
   ·exact owed_at (AllP_append.1 hc).2 h hl
   ·exact owed_at hc h hl
  ·obtain rfl := Nat.eq_of_beq_eq_true hb
   unfold St.owed at hc
   rw [hl] at hc
   exact (AllP_append.1 hc).1
theorem ev_sound {ts : List Nat} (hg : g = true) (hr : Rel M s a) (hc : AllP (s.owed g ts)) : ∀ x v, s.ev g ts x = some v → AVR M v (a.eval x) := by
 intro x v h
 unfold St.ev at h
 split at h
 ·rename_i g' v' hx
  split at h
  ·rename_i t
   cases hb : hasN t ts
   ·rw [hb] at h; cases h
   ·rw [hb] at h
    simp only [cond_true, Option.some.injEq] at h
    subst h
    exact strip_sound hg (raw_sound hr hx) (owed_at hc hb hx)
  ·cases h
 ·exact raw_sound hr h
def gB (want : Bool) : AV → Option Bool
 | .one (.bool b) => some (cond want b (!b))
 | .whn g v => (gB want v).map (g && ·)
 | _ => none
def guardOf (ops : Array Oper) (s : St) : Option (Nat × Bool) → Option Bool
 | none => some true
 | some (j, want) =>
  (match (ops[j]?).bind (·.dst) with
  | some t => (match look t s.tm with | some v => gB want v | none => none)
  | none => none)
theorem gB_sound {want : Bool} : ∀ {v : AV} {g : Bool} {u : Value}, gB want v = some g → AVR M v u → ((match (some u : Option Value) with | some (.bool b) => some b | _ => none) == some want) = g
 | .one v, g, u, h, hv => by
  cases v <;> simp only [gB] at h <;> first | (cases h; done) | skip
  simp only [Option.some.injEq] at h
  have e := VR_bool hv
  subst e
  rename_i b
  subst h
  cases want <;> cases b <;> rfl
 | .agg _, _, _, h, _ => by cases h
 | .tup _, _, _, h, _ => by cases h
 | .whn g' v, g, u, h, hv => by
  simp only [gB, Option.map_eq_some_iff] at h
  obtain ⟨b, hb, rfl⟩ := h
  cases g'
  ·rw [hv.2 rfl]
   rfl
  ·rw [Bool.true_and]
   exact gB_sound hb (hv.1 rfl)
theorem guard_sound {ops : Array Oper} (hr : Rel M s a) (h : guardOf ops s o.guard = some g) : Region.wanted o (yielded ops a.tmps) = g := by
 unfold Region.wanted
 cases hg : o.guard with
 | none =>
  rw [hg] at h
  simp only [guardOf, Option.some.injEq] at h
  exact h
 | some jw =>
  obtain ⟨j, want⟩ := jw
  rw [hg] at h
  simp only [guardOf] at h
  split at h
  ·rename_i t ht
   split at h
   ·rename_i v hv
    obtain ⟨u, hu, hvu⟩ := hr.tm t v hv
    have := gB_sound h hvu
    simp only [yielded, ht, Option.bind_some, hu]
    exact this
   ·cases h
  ·cases h
def pickV (s : St) (g : Bool) (c a b : Operand) : SR :=
 match s.raw c with
 | some vc =>
  (match (strip g vc).2 with
  | .one (.bool cb) =>
   (match a, b with
   | .const (.bool true), b =>
    (match s.raw b with
    | some vb => (match (strip (g && !cb) vb).2 with | .one (.bool y) => some ((strip g vc).1 ++ (strip (g && !cb) vb).1, .one (.bool (cb || y))) | _ => none)
    | none => none)
   | a, .const (.bool false) =>
    (match s.raw a with
    | some va => (match (strip (g && cb) va).2 with | .one (.bool x) => some ((strip g vc).1 ++ (strip (g && cb) va).1, .one (.bool (cb && x))) | _ => none)
    | none => none)
   | a, b =>
    (match s.raw a, s.raw b with
    | some va, some vb =>
     (match (strip (g && cb) va).2, (strip (g && !cb) vb).2 with
     | .one (.bool x), .one (.bool y) => some ((strip g vc).1 ++ ((strip (g && cb) va).1 ++ (strip (g && !cb) vb).1), .one (.bool (cond cb x y)))
     | _, _ => none)
    | _, _ => none))
  | _ => none)
 | none => none
def stepRd (T : Nat → Option TI) (s : St) (g : Bool) (op : Op) : SR :=
 match op with
 | .pick c a b => pickV s g c a b
 | .load t x => (match s.ev g (tmpsOf [x]) x with | some v => (match stLoad T s.hp t v with | some (cs, u) => some (s.owed g (tmpsOf [x]) ++ cs, u) | none => none) | none => none)
 | op => (match stepPure T s.hp (s.ev g (tmpsOf op.operands.toList)) op with | some (cs, u) => some (s.owed g (tmpsOf op.operands.toList) ++ cs, u) | none => none)
theorem pickV_sound {c x y : Operand} {cs : List Prop} (ho : o.op = .pick c x y) (hg : g = true) (hr : Rel M s a) (h : pickV s g c x y = some (cs, v)) (hc : AllP cs) :
  ∃ u, (execOp a.eval o).run P M.w = .ok (.value u) M.w ∧ AVR M v u := by
 subst hg
 unfold pickV at h
 split at h
 ·rename_i vc hvc
  split at h
  ·rename_i cb hcb
   have hcv : AllP (strip true vc).1 → a.eval c = .bool cb := fun hcc => by
    have := strip_sound rfl (raw_sound hr hvc) hcc
    rw [hcb] at this
    exact this
   have hrun : a.eval c = .bool cb → (execOp a.eval o).run P M.w = .ok (.value (if cb then a.eval x else a.eval y)) M.w := fun hcc => by
    simp [execOp, ho, hcc, asBool]
   split at h
   ·split at h
    ·rename_i vb hvb
     split at h
     ·rename_i yb hyb
      simp only [Option.some.injEq, Prod.mk.injEq] at h
      obtain ⟨rfl, rfl⟩ := h
      obtain ⟨h1, h2⟩ := AllP_append.1 hc
      refine ⟨_, hrun (hcv h1), ?_⟩
      cases cb
      ·have := strip_sound (g := true && !false) rfl (raw_sound hr hvb) h2
       rw [hyb] at this
       simpa using this
      ·exact rfl
     ·cases h
    ·cases h
   ·split at h
    ·rename_i va hva
     split at h
     ·rename_i xb hxb
      simp only [Option.some.injEq, Prod.mk.injEq] at h
      obtain ⟨rfl, rfl⟩ := h
      obtain ⟨h1, h2⟩ := AllP_append.1 hc
      refine ⟨_, hrun (hcv h1), ?_⟩
      cases cb
      ·exact rfl
      ·have := strip_sound (g := true && true) rfl (raw_sound hr hva) h2
       rw [hxb] at this
       simpa using this
     ·cases h
    ·cases h
   ·split at h
    ·rename_i va vb hva hvb
     split at h
     ·rename_i xb yb hxb hyb
      simp only [Option.some.injEq, Prod.mk.injEq] at h
      obtain ⟨rfl, rfl⟩ := h
      obtain ⟨h1, h2⟩ := AllP_append.1 hc
      obtain ⟨h3, h4⟩ := AllP_append.1 h2
      refine ⟨_, hrun (hcv h1), ?_⟩
      cases cb
      ·have := strip_sound (g := true && !false) rfl (raw_sound hr hvb) h4
       rw [hyb] at this
       simpa using this
      ·have := strip_sound (g := true && true) rfl (raw_sound hr hva) h3
       rw [hxb] at this
       simpa using this
     ·cases h
    ·cases h
  ·cases h
 ·cases h
theorem stepRd_sound {cs : List Prop} (hT : ∀ t i, T t = some i → TF P t i) (hg : g = true) (hr : Rel M s a) (h : stepRd T s g o.op = some (cs, v)) (hc : AllP cs) :
  ∃ u, (execOp a.eval o).run P M.w = .ok (.value u) M.w ∧ AVR M v u := by
 unfold stepRd at h
 split at h
 ·rename_i c x y hop
  exact pickV_sound hop hg hr h hc
 ·rename_i t x hop
  split at h
  ·rename_i v0 hv0
   split at h
   ·rename_i cs1 u1 hl
    simp only [Option.some.injEq, Prod.mk.injEq] at h
    obtain ⟨rfl, rfl⟩ := h
    obtain ⟨h1, h2⟩ := AllP_append.1 hc
    rw [← hr.hp] at hl
    obtain ⟨u, hu, hv⟩ := stLoad_sound (P := P) hT hr.ok hl (ev_sound hg hr h1 _ _ hv0) h2
    exact ⟨u, by simp only [execOp, hop, Sem.run_bind, hu, Result.andThen_ok, Sem.run_pure], hv⟩
   ·cases h
  ·cases h
 ·split at h
  ·rename_i cs1 u1 hl
   simp only [Option.some.injEq, Prod.mk.injEq] at h
   obtain ⟨rfl, rfl⟩ := h
   obtain ⟨h1, h2⟩ := AllP_append.1 hc
   rw [← hr.hp] at hl
   exact stepPure_sound hT hr.ok (ev_sound hg hr h1) hl h2
  ·cases h
def putD (dst : Option Nat) (v : AV) (n : Nat) (tm : List (Nat × AV)) : Option (List (Nat × AV)) :=
 match dst with
 | some d => cond (Nat.ble (d + 1) n) (some (ins d v tm)) none
 | none => none
def whnAll (g : Bool) : List Prop → List Prop
 | [] => []
 | p :: r => (g = true → p) :: whnAll g r
def memStep (T : Nat → Option TI) (s : St) (o : Oper) : Option (List Prop × St) :=
 match stepMem T s.hp (s.ev true (tmpsOf o.op.operands.toList)) o.dst o.op with
 | some r =>
  (match r.x, r.val with
  | none, none => cond o.dst.isNone (some (s.owed true (tmpsOf o.op.operands.toList) ++ r.cs, ⟨s.n, s.tm, r.hp⟩)) none
  | some id, some v =>
   (match putD o.dst v s.n (mapV (clrA (Nat.beq id)) s.tm) with
   | some tm => cond (Nat.ble 100 id) (some (s.owed true (tmpsOf o.op.operands.toList) ++ r.cs, ⟨s.n, tm, r.hp⟩)) none
   | none => none)
  | none, some v =>
   (match putD o.dst v s.n s.tm with
   | some tm => some (s.owed true (tmpsOf o.op.operands.toList) ++ r.cs, ⟨s.n, tm, r.hp⟩)
   | none => none)
  | _, _ => none)
 | none => none
def stepOp (T : Nat → Option TI) (ops : Array Oper) (s : St) (o : Oper) : Option (List Prop × St) :=
 match o.guard with
 | none =>
  (match stepRd T s true o.op with
  | some (cs, v) => (match putD o.dst v s.n s.tm with | some tm => some (cs, ⟨s.n, tm, s.hp⟩) | none => none)
  | none => memStep T s o)
 | some gd =>
  (match guardOf ops s (some gd) with
  | some g =>
   (match stepRd T s g o.op with
   | some (cs, v) => (match putD o.dst (.whn g v) s.n s.tm with | some tm => some (whnAll g cs, ⟨s.n, tm, s.hp⟩) | none => none)
   | none => (match memStep T s o with | some r => cond g (some r) none | none => none))
  | none => none)
def big (x : Nat) : Bool := Nat.ble 100 x
theorem whnAll_true (hg : g = true) : ∀ {l : List Prop}, AllP (whnAll g l) → AllP l
 | [], _ => trivial
 | _p :: _r, h => ⟨h.1 hg, whnAll_true hg h.2⟩
theorem Rel.put {u : Value} {dst : Option Nat} {tm : List (Nat × AV)} (hr : Rel M s a) (hd : putD dst v s.n s.tm = some tm) (hv : AVR M v u) : Rel M ⟨s.n, tm, s.hp⟩ (a.put dst u) := by
 unfold putD at hd
 split at hd
 ·rename_i d'
  cases hb : Nat.ble (d' + 1) s.n
  ·rw [hb] at hd; cases hd
  ·rw [hb] at hd
   have hlt := Nat.le_of_ble_eq_true hb
   simp only [cond_true, Option.some.injEq] at hd
   subst hd
   refine ⟨hr.hp, hr.ok, hr.defers, by simp [Act.put, hr.size], fun e x he => ?_⟩
   simp only [Act.put]
   simp only at he
   rw [look_ins] at he
   split at he
   ·rename_i hed
    subst hed
    cases he
    exact ⟨u, by rw [Array.getElem?_setIfInBounds_self_of_lt (by rw [hr.size]; omega)], hv⟩
   ·rename_i hed
    obtain ⟨y, hy, hxy⟩ := hr.tm e x he
    exact ⟨y, by rw [Array.getElem?_setIfInBounds_ne (Ne.symm hed)]; exact hy, hxy⟩
 ·cases hd
theorem Rel.step {M' : Mem} {hp : Heap} {X : Nat → Bool} (hr : Rel M s a) (hH : M'.H = hp) (hok : MOk M') (he : Ext X M M') : Rel M' ⟨s.n, mapV (clrA X) s.tm, hp⟩ a := by
 refine ⟨hH, hok, hr.defers, hr.size, fun d v hd => ?_⟩
 rw [look_mapV, Option.map_eq_some_iff] at hd
 obtain ⟨v0, h0, rfl⟩ := hd
 obtain ⟨u, hu, hv⟩ := hr.tm d v0 h0
 exact ⟨u, hu, AVR_ext he hv⟩
theorem Rel.step0 {M' : Mem} {hp : Heap} (hr : Rel M s a) (hH : M'.H = hp) (hok : MOk M') (he : Ext noX M M') : Rel M' ⟨s.n, s.tm, hp⟩ a := by
 refine ⟨hH, hok, hr.defers, hr.size, fun d v hd => ?_⟩
 obtain ⟨u, hu, hv⟩ := hr.tm d v hd
 exact ⟨u, hu, AVR_ext0 he hv⟩
theorem memStep_sound {s' : St} {cs : List Prop} (hT : ∀ t i, T t = some i → TF P t i) (h : memStep T s o = some (cs, s')) (hc : AllP cs) (hr : Rel M s a) :
  ∃ (n : Next) (M' : Mem) (u : Value), (execOp a.eval o).run P M.w = .ok n M'.w ∧ Ext big M M' ∧ Rel M' s' (a.put o.dst u) ∧ (n = .value u ∨ (n = .skip ∧ u = undef)) := by
 unfold memStep at h
 split at h
 ·rename_i r hmem
  split at h
  ·rename_i hx hval
   cases hdst : o.dst with
   | some d => rw [hdst] at h; cases h
   | none =>
    rw [hdst] at h
    simp only [Option.isNone_none, cond_true, Option.some.injEq, Prod.mk.injEq] at h
    obtain ⟨rfl, rfl⟩ := h
    obtain ⟨h1, h2⟩ := AllP_append.1 hc
    rw [← hr.hp] at hmem
    obtain ⟨n, M', hrun, hH, hok, hext, hn⟩ := stepMem_sound (P := P) hT hr.ok (ev_sound rfl hr h1) hmem h2
    rw [hval] at hn
    rw [hx] at hext
    exact ⟨n, M', undef, hrun, hext.mono (fun x hx => by cases hx), hr.step0 hH hok hext, .inr ⟨hn, rfl⟩⟩
  ·rename_i id v hx hval
   split at h
   ·rename_i tm htm
    cases hb : Nat.ble 100 id
    ·rw [hb] at h; cases h
    ·rw [hb] at h
     simp only [cond_true, Option.some.injEq, Prod.mk.injEq] at h
     obtain ⟨rfl, rfl⟩ := h
     obtain ⟨h1, h2⟩ := AllP_append.1 hc
     rw [← hr.hp] at hmem
     obtain ⟨n, M', hrun, hH, hok, hext, hn⟩ := stepMem_sound (P := P) hT hr.ok (ev_sound rfl hr h1) hmem h2
     rw [hval] at hn
     rw [hx] at hext
     obtain ⟨u, rfl, hv⟩ := hn
     exact ⟨_, M', u, hrun, hext.mono (fun x hx => by have := Nat.eq_of_beq_eq_true hx; subst this; exact hb), (hr.step hH hok hext).put htm hv, .inl rfl⟩
   ·cases h
  ·rename_i v hx hval
   split at h
   ·rename_i tm htm
    simp only [Option.some.injEq, Prod.mk.injEq] at h
    obtain ⟨rfl, rfl⟩ := h
    obtain ⟨h1, h2⟩ := AllP_append.1 hc
    rw [← hr.hp] at hmem
    obtain ⟨n, M', hrun, hH, hok, hext, hn⟩ := stepMem_sound (P := P) hT hr.ok (ev_sound rfl hr h1) hmem h2
    rw [hval] at hn
    rw [hx] at hext
    obtain ⟨u, rfl, hv⟩ := hn
    exact ⟨_, M', u, hrun, hext.mono (fun x hx => by cases hx), (hr.step0 hH hok hext).put htm hv, .inl rfl⟩
   ·cases h
  ·cases h
 ·cases h
theorem stepOp_sound {ops : Array Oper} {s' : St} {cs : List Prop} (hT : ∀ t i, T t = some i → TF P t i) (h : stepOp T ops s o = some (cs, s')) (hc : AllP cs) (hr : Rel M s a) :
  (Region.wanted o (yielded ops a.tmps) = false ∧ Rel M s' (a.put o.dst undef)) ∨
  (Region.wanted o (yielded ops a.tmps) = true ∧ ∃ (n : Next) (M' : Mem) (u : Value), (execOp a.eval o).run P M.w = .ok n M'.w ∧ Ext big M M' ∧ Rel M' s' (a.put o.dst u) ∧ (n = .value u ∨ (n = .skip ∧ u = undef))) := by
 unfold stepOp at h
 split at h
 ·rename_i hg
  refine .inr ⟨by simp [Region.wanted, hg], ?_⟩
  split at h
  ·rename_i cs1 v hrd
   split at h
   ·rename_i tm htm
    simp only [Option.some.injEq, Prod.mk.injEq] at h
    obtain ⟨rfl, rfl⟩ := h
    obtain ⟨u, hu, hv⟩ := stepRd_sound (P := P) hT rfl hr hrd hc
    exact ⟨_, M, u, hu, Ext.refl _ _, hr.put htm hv, .inl rfl⟩
   ·cases h
  ·exact memStep_sound hT h hc hr
 ·rename_i gd hg
  split at h
  ·rename_i g hgo
   rw [← hg] at hgo
   have hw := guard_sound hr hgo
   split at h
   ·rename_i cs1 v hrd
    split at h
    ·rename_i tm htm
     simp only [Option.some.injEq, Prod.mk.injEq] at h
     obtain ⟨rfl, rfl⟩ := h
     cases hgb : g
     ·subst hgb
      exact .inl ⟨hw, hr.put htm ⟨fun h => (by cases h), fun _ => rfl⟩⟩
     ·obtain ⟨u, hu, hv⟩ := stepRd_sound (P := P) hT hgb hr hrd (whnAll_true hgb hc)
      exact .inr ⟨by rw [hw, hgb], _, M, u, hu, Ext.refl _ _, hr.put htm ⟨fun _ => hv, fun h => by rw [hgb] at h; cases h⟩, .inl rfl⟩
    ·cases h
   ·split at h
    ·rename_i r hm
     cases hgb : g
     ·rw [hgb] at h; cases h
     ·rw [hgb] at h
      simp only [cond_true, Option.some.injEq] at h
      subst h
      exact .inr ⟨by rw [hw, hgb], memStep_sound hT hm hc hr⟩
    ·cases h
  ·cases h
def runOps (T : Nat → Option TI) (ops : Array Oper) : List Oper → St → Option (List Prop × St)
 | [], s => some ([], s)
 | o :: r, s =>
  (match stepOp T ops s o with
  | some (cs, s') => (match runOps T ops r s' with | some (cs', s'') => some (cs ++ cs', s'') | none => none)
  | none => none)
end Go.Ab
namespace Go.Ab
abbrev Post := Exit → St → Prop
def AWk (s s' : St) : Prop := ∀ M a, Rel M s a → ∃ M', Rel M' s' a ∧ M'.w = M.w ∧ Ext big M M'
def Qc (K : Post) (M0 : Mem) : Exit → Act → World → Prop := fun e a w => ∃ s M', K e s ∧ Rel M' s a ∧ M'.w = w ∧ Ext big M0 M'
structure AWp (P : Program) (c : Code) (K : Post) (s : St) : Prop where
 run : ∀ M0 M a, Ext big M0 M → Rel M s a → c.wp P (Qc K M0) a M.w
structure AOps (P : Program) (l : List Oper) (k : Nat) (K : Post) (s : St) : Prop where
 run : ∀ M0 M a, Ext big M0 M → Rel M s a → wpList P l.toArray (Qc K M0) (l.drop k) a M.w
structure LoopEnd (I : Nat → St → Prop) (n : Nat) (s : St) : Prop where
 run : ∃ m, m < n ∧ I m s
theorem loop_end {I : Nat → St → Prop} {n : Nat} {s : St} (m : Nat) (h : m < n) (hI : I m s) : LoopEnd I n s := ⟨m, h, hI⟩
structure JEnd (J : St → Prop) (s : St) : Prop where
 run : J s
def kSeq (N : St → Prop) (K : Post) : Post
 | .normal, s => N s
 | .exit i, s => K (.exit i) s
 | .goto l, s => K (.goto l) s
 | .ret, s => K .ret s
 | .panic c, s => K (.panic c) s
 | .outgrown, s => K .outgrown s
def kBlk (id : Nat) (K : Post) : Post
 | .normal, s => K .normal s
 | .exit i, s => cond (Nat.beq i id) (K .normal s) (K (.exit i) s)
 | .goto l, s => K (.goto l) s
 | .ret, s => K .ret s
 | .panic c, s => K (.panic c) s
 | .outgrown, s => K .outgrown s
section
variable {P : Program} {T : Nat → Option TI} {K : Post} {s s' : St}
variable {c x y : Code} {id k : Nat} {l : List Oper}
variable {K' : Post}
theorem awp_weak (h : AWk s s') (k : AWp P c K s') : AWp P c K s := ⟨fun M0 M a he hr => by
 obtain ⟨M', h1, w1, e1⟩ := h M a hr
 rw [← w1]
 exact k.run M0 M' a (he.trans e1) h1⟩
theorem aops_weak (h : AWk s s') (hk : AOps P l k K s') : AOps P l k K s := ⟨fun M0 M a he hr => by
 obtain ⟨M', h1, w1, e1⟩ := h M a hr
 rw [← w1]
 exact hk.run M0 M' a (he.trans e1) h1⟩
theorem qc_end {e : Exit} {M0 M : Mem} {a : Act} (he : Ext big M0 M) (hr : Rel M s a) (h : K e s) : Qc K M0 e a M.w := ⟨s, M, h, hr, rfl, he⟩
theorem awp_mono (h : AWp P c K s) (hk : ∀ e s, K e s → K' e s) : AWp P c K' s := ⟨fun M0 M a he hr =>
 wp_mono (h.run M0 M a he hr) fun e _a _w ⟨s, M', h1, h2⟩ => ⟨s, M', hk e s h1, h2⟩⟩
theorem awp_skip (h : K .normal s) : AWp P .skip K s := ⟨fun _ _ _ he hr => wp_skip (qc_end he hr h)⟩
theorem awp_exit {i : Nat} (h : K (.exit i) s) : AWp P (.exit i) K s := ⟨fun _ _ _ he hr => wp_exit (qc_end he hr h)⟩
theorem awp_ret (h : K .ret s) : AWp P .ret K s := ⟨fun _ _ _ he hr => wp_ret (qc_end he hr h)⟩
theorem awp_seq (h : AWp P x (kSeq (AWp P y K) K) s) : AWp P (.seq x y) K s := ⟨fun M0 M a he hr =>
 wp_seq (wp_mono (h.run M0 M a he hr) fun e a w hq => by
  obtain ⟨s1, M1, h1, h2, h3, h4⟩ := hq
  cases e with
  | normal => subst h3; exact h1.run M0 M1 a h4 h2
  | exit i => exact ⟨s1, M1, h1, h2, h3, h4⟩
  | goto i => exact ⟨s1, M1, h1, h2, h3, h4⟩
  | ret => exact ⟨s1, M1, h1, h2, h3, h4⟩
  | panic i => exact ⟨s1, M1, h1, h2, h3, h4⟩
  | outgrown => exact ⟨s1, M1, h1, h2, h3, h4⟩)⟩
theorem awp_block (h : AWp P c (kBlk id K) s) : AWp P (.block id c) K s := ⟨fun M0 M a he hr =>
 wp_block (wp_mono (h.run M0 M a he hr) fun e a w hq => by
  obtain ⟨s1, M1, h1, h2, h3, h4⟩ := hq
  cases e with
  | normal => exact ⟨s1, M1, h1, h2, h3, h4⟩
  | exit i =>
   simp only [kBlk] at h1
   by_cases hi : i = id
   ·subst hi
    rw [beq_self] at h1
    simp only [Exit.inBlock, if_true]
    exact ⟨s1, M1, h1, h2, h3, h4⟩
   ·rw [beq_ne hi] at h1
    simp only [Exit.inBlock, if_neg hi]
    exact ⟨s1, M1, h1, h2, h3, h4⟩
  | goto i => exact ⟨s1, M1, h1, h2, h3, h4⟩
  | ret => exact ⟨s1, M1, h1, h2, h3, h4⟩
  | panic i => exact ⟨s1, M1, h1, h2, h3, h4⟩
  | outgrown => exact ⟨s1, M1, h1, h2, h3, h4⟩)⟩
theorem awp_cond {c : Operand} {b : Bool} (hc : s.raw c = some (.one (.bool b))) (ht : b = true → AWp P x K s) (hf : b = false → AWp P y K s) : AWp P (.cond c x y) K s := ⟨fun M0 M a he hr =>
 wp_cond_split (VR_bool (raw_sound hr hc)) (fun h => (ht h).run M0 M a he hr) (fun h => (hf h).run M0 M a he hr)⟩
theorem awp_loop (I : Nat → St → Prop) (n : Nat) (h0 : I n s) (round : ∀ n s, I n s → AWp P c (kSeq (LoopEnd I n) K) s) : AWp P (.loop c) K s := ⟨fun M0 M a he hr => by
 refine wp_loop_ghost (fun n a w => ∃ s M', I n s ∧ Rel M' s a ∧ M'.w = w ∧ Ext big M0 M') n ⟨s, M, h0, hr, rfl, he⟩ fun n a w ⟨s1, M1, h1, h2, h3, h4⟩ => ?_
 subst h3
 refine wp_mono ((round n s1 h1).run M0 M1 a h4 h2) fun e a w hq => ?_
 obtain ⟨s2, M2, k1, k2, k3, k4⟩ := hq
 cases e with
 | normal =>
  obtain ⟨m, hm, hI⟩ := k1.run
  exact ⟨m, hm, s2, M2, hI, k2, k3, k4⟩
 | exit i => exact ⟨s2, M2, k1, k2, k3, k4⟩
 | goto i => exact ⟨s2, M2, k1, k2, k3, k4⟩
 | ret => exact ⟨s2, M2, k1, k2, k3, k4⟩
 | panic i => exact ⟨s2, M2, k1, k2, k3, k4⟩
 | outgrown => exact ⟨s2, M2, k1, k2, k3, k4⟩⟩
theorem awp_region (h : AOps P l 0 K s) : AWp P (.region id l.toArray false) K s := ⟨fun M0 M a he hr =>
 wp_region_lit (h.run M0 M a he hr)⟩
theorem aops_end (hk : l.drop k = []) (h : K .normal s) : AOps P l k K s := ⟨fun M0 M a he hr => by
 rw [hk]
 exact wpList_nil (qc_end he hr h)⟩
theorem aops_end_seq (hk : l.drop k = []) (h : AWp P y K' s) : AOps P l k (kSeq (AWp P y K') K) s := aops_end hk h
theorem aops_step {o : Oper} {r : List Oper} {cs : List Prop} (hT : ∀ t i, T t = some i → TF P t i) (hl : l.drop k = o :: r) (h : stepOp T l.toArray s o = some (cs, s')) (hc : AllP cs) (hk : AOps P l (k + 1) K s') : AOps P l k K s := ⟨fun M0 M a he hr => by
 have hd : l.drop (k + 1) = r := by
  have h1 : (l.drop k).drop 1 = r := by rw [hl]; rfl
  rwa [List.drop_drop] at h1
 rw [hl]
 unfold wpList
 rcases stepOp_sound (P := P) hT h hc hr with ⟨hw, hr'⟩ | ⟨hw, n, M', u, hrun, hext, hr', hn⟩
 ·rw [if_neg (by rw [hw]; decide)]
  rw [← hd]
  exact hk.run M0 M _ he hr'
 ·rw [if_pos hw]
  refine .inl ?_
  have hgo := hk.run M0 M' _ (he.trans hext) hr'
  rw [hd] at hgo
  unfold Oper.wp
  rw [hrun]
  rcases hn with rfl | ⟨rfl, rfl⟩
  ·exact hgo
  ·exact hgo⟩
theorem aops_ops (hT : ∀ t i, T t = some i → TF P t i) (seg : List Oper) : ∀ (k : Nat) (s : St) (cs : List Prop), l.drop k = seg ++ l.drop (k + seg.length) → runOps T l.toArray seg s = some (cs, s') → AllP cs → AOps P l (k + seg.length) K s' → AOps P l k K s := by
 induction seg with
 | nil =>
  intro k s cs _ h _ hk
  simp only [runOps, Option.some.injEq, Prod.mk.injEq] at h
  obtain ⟨rfl, rfl⟩ := h
  exact hk
 | cons o seg ih =>
  intro k s cs hl h hc hk
  unfold runOps at h
  split at h
  ·rename_i cs1 s1 h1
   split at h
   ·rename_i cs2 s2 h2
    simp only [Option.some.injEq, Prod.mk.injEq] at h
    obtain ⟨rfl, rfl⟩ := h
    obtain ⟨c1, c2⟩ := AllP_append.1 hc
    have e1 : k + (o :: seg).length = k + 1 + seg.length := by simp only [List.length_cons]; omega
    rw [e1] at hl hk
    refine aops_step hT hl h1 c1 (ih (k + 1) s1 cs2 ?_ h2 c2 hk)
    have h3 : (l.drop k).drop 1 = seg ++ l.drop (k + 1 + seg.length) := by rw [hl]; rfl
    rwa [List.drop_drop] at h3
   ·cases h
  ·cases h
def keepN {α : Type} (ks : List Nat) : List (Nat × α) → List (Nat × α)
 | [] => []
 | (k, v) :: r => cond (hasN k ks) ((k, v) :: keepN ks r) (keepN ks r)
def outN (hs : List Nat) (x : Nat) : Bool := big x && !(hasN x hs)
def keepH (hs : List Nat) : Heap → Heap
 | [] => []
 | (k, v) :: r => cond (outN hs k) (keepH hs r) ((k, v) :: keepH hs r)
def cutS (ks hs : List Nat) (s : St) : St := ⟨s.n, mapV (clrA (outN hs)) (keepN ks s.tm), mapV (clrO (outN hs)) (keepH hs s.hp)⟩
theorem look_keepN {α : Type} (ks : List Nat) (x : Nat) : ∀ l : List (Nat × α), look x (keepN ks l) = cond (hasN x ks) (look x l) none
 | [] => by cases hasN x ks <;> rfl
 | (k, v) :: r => by
  unfold keepN
  have ih := look_keepN ks x r
  by_cases hkx : k = x
  ·subst hkx
   cases h : hasN k ks
   ·rw [h] at ih; simpa using ih
   ·simp [look]
  ·cases h : hasN k ks
   ·simp only [cond_false, look, beq_ne hkx]; exact ih
   ·simp only [cond_true, look, beq_ne hkx, cond_false]; exact ih
theorem look_keepH (hs : List Nat) (x : Nat) : ∀ l : Heap, look x (keepH hs l) = cond (outN hs x) none (look x l)
 | [] => by cases outN hs x <;> rfl
 | (k, v) :: r => by
  unfold keepH
  have ih := look_keepH hs x r
  by_cases hkx : k = x
  ·subst hkx
   cases h : outN hs k
   ·simp [look]
   ·rw [h] at ih; simpa using ih
  ·cases h : outN hs k
   ·simp only [cond_false, look, beq_ne hkx]; exact ih
   ·simp only [cond_true, look, beq_ne hkx, cond_false]; exact ih
theorem lk_keepH (hs : List Nat) (x : Key) (l : Heap) : lk (keepH hs l) x = cond (outN hs x.1) none (lk l x) := by
 obtain ⟨x, r⟩ := x
 cases r with
 | none => exact look_keepH hs x l
 | some i =>
  unfold lk
  simp only [look_keepH]
  cases outN hs x <;> rfl
theorem awk_cut (ks hs : List Nat) (s : St) : AWk s (cutS ks hs s) := fun M a hr => by
 have hlk : ∀ (x : Key) o, lk (mapV (clrO (outN hs)) (keepH hs s.hp)) x = some o → outN hs x.1 = false ∧ ∃ o1, lk M.H x = some o1 ∧ o = clrO (outN hs) o1 := by
  intro x o h
  obtain ⟨o1, h1, rfl⟩ := lk_clr h
  rw [lk_keepH] at h1
  cases hx : outN hs x.1
  ·rw [hx] at h1
   exact ⟨rfl, o1, by rw [hr.hp]; exact h1, rfl⟩
  ·rw [hx] at h1; cases h1
 have hnk : Named (keepH hs s.hp) := fun x id xss h => by
  rw [look_keepH] at h
  cases hx : outN hs x
  ·rw [hx] at h; exact hr.ok.named x id xss (by rw [hr.hp]; exact h)
  ·rw [hx] at h; cases h
 have hlive : ∀ b, Mem.live ⟨M.μ, mapV (clrO (outN hs)) (keepH hs s.hp), M.w, M.free⟩ b → M.live b := by
  rintro b ⟨x, o, p, h1, h2⟩
  obtain ⟨_, o1, h3, _⟩ := hlk x o h1
  exact ⟨x, o1, p, h3, h2⟩
 have hext : Ext (outN hs) M ⟨M.μ, mapV (clrO (outN hs)) (keepH hs s.hp), M.w, M.free⟩ := by
  refine ⟨⟨rfl, rfl, rfl, Nat.le_refl _, Nat.le_refl _, fun b _ hl => ⟨rfl, fun h => hl (hlive b h)⟩, fun _ h => h, fun _ h => .inl h⟩, fun x o hx hl => ?_⟩
  refine ⟨clrO (outN hs) o, ?_, clrO_sz _ _, by rw [clrO_len]; exact Nat.le_refl _, rfl, fun b p cur e _ hc => ⟨cur, hc, rfl⟩⟩
  show lk (mapV (clrO (outN hs)) (keepH hs s.hp)) x = _
  exact lk_clr_of hnk hx (by rw [lk_keepH, hx, ← hr.hp, cond_false, hl])
 refine ⟨⟨M.μ, mapV (clrO (outN hs)) (keepH hs s.hp), M.w, M.free⟩, ⟨rfl, ?_, hr.defers, hr.size, fun d v hd => ?_⟩, rfl, hext.mono (fun x hx => (by
  unfold outN at hx
  cases hb : big x
  ·rw [hb] at hx; cases hx
  ·rfl))⟩
 ·refine ⟨hnk.clr _, fun b hb => ⟨(hr.ok.fr b hb).1, fun h => (hr.ok.fr b hb).2 (hlive b h)⟩, fun x y o o' b p q hx hy hmx hmy => ?_, fun x o hx hm => ?_, fun x o b p hx hm => ?_⟩
  ·obtain ⟨_, o1, h1, _⟩ := hlk x o hx
   obtain ⟨_, o2, h2, _⟩ := hlk y o' hy
   exact hr.ok.inj x y o1 o2 b p q h1 h2 hmx hmy
  ·obtain ⟨_, o1, h1, rfl⟩ := hlk x o hx
   rw [clrO_len]; exact hr.ok.none_ x o1 h1 hm
  ·obtain ⟨_, o1, h1, rfl⟩ := hlk x o hx
   obtain ⟨cur, e, g1, g2, g3⟩ := hr.ok.obj x o1 b p h1 hm
   refine ⟨cur, e, g1, by rw [clrO_len, clrO_sz]; exact g2, fun i hi j hj => ?_⟩
   rw [clrO_len] at hi
   rw [clrO_sz] at hj ⊢
   obtain ⟨u, k1, k2, k3⟩ := g3 i hi j hj
   refine ⟨u, k1, k2, ?_⟩
   rw [clrO_cell]
   exact VR_ext hext k3
 ·have hd' : look d (mapV (clrA (outN hs)) (keepN ks s.tm)) = some v := hd
  rw [look_mapV, look_keepN, Option.map_eq_some_iff] at hd'
  obtain ⟨v0, h0, rfl⟩ := hd'
  cases hk : hasN d ks
  ·rw [hk] at h0; cases h0
  ·rw [hk] at h0
   obtain ⟨u, hu, hv⟩ := hr.tm d v0 h0
   exact ⟨u, hu, AVR_ext hext hv⟩
def runCut (T : Nat → Option TI) (l : List Oper) (k m : Nat) (ks hs : List Nat) (s : St) : Option (List Prop × St) :=
 match runOps T l.toArray ((l.drop k).take m) s with
 | some (cs, s') => some (cs, cutS ks hs s')
 | none => none
theorem aops_run (m : Nat) (ks hs : List Nat) (cs : List Prop) (s' : St) (hT : ∀ t i, T t = some i → TF P t i) (hle : Nat.ble (k + m) l.length = true) (h : runCut T l k m ks hs s = some (cs, s')) (hc : AllP cs) (hk : AOps P l (k + m) K s') : AOps P l k K s := by
 unfold runCut at h
 split at h
 ·rename_i cs1 s1 h1
  simp only [Option.some.injEq, Prod.mk.injEq] at h
  obtain ⟨rfl, rfl⟩ := h
  have hle := Nat.le_of_ble_eq_true hle
  have hlen : ((l.drop k).take m).length = m := by rw [List.length_take, List.length_drop]; omega
  refine aops_ops hT ((l.drop k).take m) k s cs1 ?_ h1 hc ?_
  ·rw [hlen, ← List.drop_drop, List.take_append_drop]
  ·rw [hlen]
   exact aops_weak (awk_cut ks hs s1) (by assumption)
 ·cases h
theorem awp_run (ks hs : List Nat) (cs : List Prop) (s' : St) (hT : ∀ t i, T t = some i → TF P t i) (h : runCut T l 0 l.length ks hs s = some (cs, s')) (hc : AllP cs) (hk : K .normal s') : AWp P (.region id l.toArray false) K s :=
 awp_region (aops_run l.length ks hs cs s' hT (by rw [Nat.zero_add]; exact Nat.ble_self_eq_true _) h hc (aops_end (by simp) hk))
theorem awp_run_seq (ks hs : List Nat) (cs : List Prop) (s' : St) (hT : ∀ t i, T t = some i → TF P t i) (h : runCut T l 0 l.length ks hs s = some (cs, s')) (hc : AllP cs) (hk : AWp P y K s') : AWp P (.seq (.region id l.toArray false) y) K s :=
 awp_seq (awp_run ks hs cs s' hT h hc hk)
theorem aops_cut (ks hs : List Nat) (s' : St) (h : cutS ks hs s = s') (hk : AOps P l k K s') : AOps P l k K s := by
 subst h; exact aops_weak (awk_cut ks hs s) hk
theorem awp_cut (ks hs : List Nat) (s' : St) (h : cutS ks hs s = s') (hk : AWp P c K s') : AWp P c K s := by
 subst h; exact awp_weak (awk_cut ks hs s) hk
theorem awp_join (J : St → Prop) (h : AWp P x (kSeq (JEnd J) K) s) (hk : ∀ s', J s' → AWp P y K s') : AWp P (.seq x y) K s :=
 awp_seq (awp_mono h fun e s h => by
  cases e with
  | normal => exact hk s h.run
  | exit i => exact h
  | goto i => exact h
  | ret => exact h
  | panic i => exact h
  | outgrown => exact h)
theorem awp_join_tail (J : St → Prop) (h : AWp P x (kSeq (JEnd J) K) s) (hk : ∀ s', J s' → AWp P y K' s') : AWp P x (kSeq (AWp P y K') K) s :=
 awp_mono h fun e s h => by
  cases e with
  | normal => exact hk s h.run
  | exit i => exact h
  | goto i => exact h
  | ret => exact h
  | panic i => exact h
  | outgrown => exact h
theorem jend {J : St → Prop} (h : J s) : JEnd J s := ⟨h⟩
theorem awp_cond_join_tail {c : Operand} {z : Code} {b : Bool} (sj : Bool → St) (hc : s.raw c = some (.one (.bool b))) (ht : b = true → AWp P x (kSeq (JEnd (· = sj true)) K) s) (hf : b = false → AWp P y (kSeq (JEnd (· = sj false)) K) s) (hk : AWp P z K' (sj b)) : AWp P (.cond c x y) (kSeq (AWp P z K') K) s :=
 awp_join_tail (· = sj b) (awp_cond hc (fun h => by subst h; exact ht rfl) (fun h => by subst h; exact hf rfl)) (fun s' h => by rw [h]; exact hk)
end
end Go.Ab
namespace Go.Ab
def liftV (f : V1 → V1) : V1 → V1
 | .fn g caps => .fn g (caps.map f)
 | v => f v
def liftA (f : V1 → V1) : AV → AV
 | .one v => .one (liftV f v)
 | .agg vs => .agg (vs.map (liftV f))
 | .tup es => .tup (es.map fun e => (e.1, e.2.map (liftV f)))
 | .whn g v => .whn g (liftA f v)
def liftO (f : V1 → V1) : Obj → Obj
 | .box n sz vs => .box n sz (vs.map (liftV f))
 | .tail pre xs => .tail (pre.map (liftV f)) xs
 | o => o
theorem liftO_sz (f : V1 → V1) (o : Obj) : (liftO f o).sz = o.sz := by cases o <;> rfl
theorem liftO_len (f : V1 → V1) (o : Obj) : (liftO f o).len = o.len := by cases o <;> first | rfl | simp [liftO, Obj.len]
theorem liftO_plain (f : V1 → V1) (o : Obj) : (liftO f o).plain = o.plain := by cases o <;> rfl
theorem lk_lift (f : V1 → V1) (H : Heap) (k : Key) : lk (mapV (liftO f) H) k = (lk H k).map (liftO f) := by
 obtain ⟨x, r⟩ := k
 cases r with
 | none => exact look_mapV _ _ _
 | some i =>
  unfold lk
  simp only [look_mapV]
  cases h : look x H with
  | none => rfl
  | some o => cases o <;> first | rfl | (simp only [Option.map_some, liftO]; split <;> rfl)
theorem Named.lift {H : Heap} (h : Named H) (f : V1 → V1) : Named (mapV (liftO f) H) := fun x i xss hl => by
 rw [look_mapV, Option.map_eq_some_iff] at hl
 obtain ⟨o1, h1, h2⟩ := hl
 cases o1 <;> cases h2
 exact h x _ _ h1
theorem lk_plain {H : Heap} {x i : Nat} {o o1 : Obj} (h : look x H = some o) (hp : o.plain = true) (h1 : lk H (x, some i) = some o1) : False := by
 obtain ⟨_, _, h2, _⟩ := lk_row h1
 rw [h] at h2
 cases h2
 cases hp
def Turns (f : V1 → V1) (M M' : Mem) : Prop := ∀ v u, noFn v = true → VM M v u → noFn (f v) = true ∧ VM M' (f v) u
theorem C0_cell_noFn (c : C0) (i j : Nat) : noFn (c.cell i j) = true := by
 cases c <;> first | rfl | skip
 all_goals (simp only [C0.cell]; first | unfold arcCell | unfold ndCell | unfold stepCell | unfold ddCell)
 all_goals (split <;> rfl)
theorem C1_cell_noFn (c : C1) (i j : Nat) : noFn (c.cell i j) = true := by
 cases c <;> first | rfl | skip
 all_goals (simp only [C1.cell]; first | unfold pieceCell | unfold graphCell | unfold staCell | unfold netCell) <;> (split <;> rfl)
section
variable {f : V1 → V1} {M M' : Mem}
theorem VR_lift {v : V1} {u : Value} (h : Turns f M M') (hv : VR M v u) : VR M' (liftV f v) u := by
 cases hn : noFn v
 ·cases v <;> first | (cases hn; done) | skip
  obtain ⟨cs, rfl, hl, hc⟩ := hv
  refine ⟨cs, rfl, by simpa using hl, fun i c hi => ?_⟩
  simp only [List.getElem?_map, Option.map_eq_some_iff] at hi
  obtain ⟨c0, hc0, rfl⟩ := hi
  obtain ⟨u, hu, hv⟩ := hc i c0 hc0
  refine ⟨u, hu, ?_⟩
  cases hcf : noFn c0
  ·cases c0 <;> first | (cases hcf; done) | exact hv.elim
  ·exact (h c0 u hcf hv).2
 ·have h1 := h v u hn (VM_of_VR hn hv)
  have : liftV f v = f v := by cases v <;> first | rfl | cases hn
  rw [this]
  exact VR_of_VM h1.1 h1.2
theorem CellsR_lift {vs : List V1} {cs : Array Value} (h : Turns f M M') (hv : CellsR M vs cs) : CellsR M' (vs.map (liftV f)) cs := by
 refine ⟨by simpa using hv.1, fun i v hi => ?_⟩
 simp only [List.getElem?_map, Option.map_eq_some_iff] at hi
 obtain ⟨v0, hv0, rfl⟩ := hi
 obtain ⟨u, hu, hv⟩ := hv.2 i v0 hv0
 exact ⟨u, hu, VR_lift h hv⟩
theorem AVR_lift {v : AV} {u : Value} (h : Turns f M M') (hv : AVR M v u) : AVR M' (liftA f v) u := by
 induction v with
 | one v => exact VR_lift h hv
 | agg vs => obtain ⟨cs, rfl, hc⟩ := hv; exact ⟨cs, rfl, CellsR_lift h hc⟩
 | tup es =>
  obtain ⟨us, rfl, hn, hc⟩ := hv
  refine ⟨us, rfl, by simpa using hn, fun i e hi => ?_⟩
  simp only [List.getElem?_map, Option.map_eq_some_iff] at hi
  obtain ⟨e0, he0, rfl⟩ := hi
  obtain ⟨x, hx, hr⟩ := hc i e0 he0
  refine ⟨x, hx, ?_⟩
  obtain ⟨b, vs⟩ := e0
  cases b
  ·match vs, hr with
   | [v], hr => exact VR_lift h hr
  ·obtain ⟨cs, rfl, hc⟩ := hr
   exact ⟨cs, rfl, CellsR_lift h hc⟩
 | whn g v ih => exact ⟨fun hg => ih (hv.1 hg), hv.2⟩
end
variable {M M' : Mem} {f : V1 → V1} {o : Obj} {H : Heap}
theorem C0_cell_low (c : C0) (i j : Nat) : (c.cell i j).low = true := by
 cases c <;> first | rfl | skip
 all_goals (simp only [C0.cell]; first | unfold arcCell | unfold ndCell | unfold stepCell | unfold ddCell)
 all_goals (split <;> rfl)
theorem C1_cell_low (c : C1) (i j : Nat) : (c.cell i j).low = true := by
 cases c <;> first | rfl | skip
 all_goals (simp only [C1.cell]; first | unfold pieceCell | unfold graphCell | unfold staCell | unfold netCell) <;> (split <;> rfl)
theorem Turns.calm (h : Turns f M M') (hf : ∀ v : V1, v.low = true → noFn v = true → f v = v) : ∀ v u, v.low = true → noFn v = true → VM M v u → VM M' v u := fun v u hl hn hv => by
 have := (h v u hn hv).2
 rwa [hf v hl hn] at this
theorem liftO_cellP (hp : o.plain = true) (h : Turns f M M') (hf : ∀ v : V1, v.low = true → noFn v = true → f v = v) {i j : Nat} {u : Value} (hi : VR M (o.cell i j) u) : VR M' ((liftO f o).cell i j) u := by
 cases o with
 | flat c => exact VR_of_VM (C0_cell_noFn c i j) (h.calm hf _ _ (C0_cell_low c i j) (C0_cell_noFn c i j) (VM_of_VR (C0_cell_noFn c i j) hi))
 | recs c => exact VR_of_VM (C1_cell_noFn c i j) (h.calm hf _ _ (C1_cell_low c i j) (C1_cell_noFn c i j) (VM_of_VR (C1_cell_noFn c i j) hi))
 | mat id xss => cases hp
 | box n sz vs =>
  show VR M' ((vs.map (liftV f)).getD (i * sz + j) .any) u
  have hi' : VR M (vs.getD (i * sz + j) .any) u := hi
  simp only [List.getD_eq_getElem?_getD, List.getElem?_map] at hi' ⊢
  cases hv : vs[i * sz + j]? with
  | none =>
   rw [hv] at hi'
   exact VR_oneCell hi'
  | some v =>
   rw [hv] at hi'
   exact VR_lift h hi'
 | tail pre xs =>
  have hi' : VR M (tailCell pre xs (i + j)) u := hi
  show VR M' (tailCell (pre.map (liftV f)) xs (i + j)) u
  unfold tailCell at hi' ⊢
  rw [List.length_map]
  cases hb : Nat.ble pre.length (i + j)
  ·rw [hb] at hi'
   simp only [cond_false, List.getD_eq_getElem?_getD, List.getElem?_map] at hi' ⊢
   cases hv : pre[i + j]? with
   | none =>
    rw [hv] at hi'
    exact VR_oneCell hi'
   | some v =>
    rw [hv] at hi'
    exact VR_lift h hi'
  ·rw [hb] at hi'
   exact hi'
theorem liftO_cell (h : Turns f M M') (hf : ∀ v : V1, v.low = true → noFn v = true → f v = v) (hfm : ∀ x i n, f (.mrow x i n) = .mrow x i n) {i j : Nat} {u : Value} (hi : VR M (o.cell i j) u) : VR M' ((liftO f o).cell i j) u := by
 cases o with
 | flat c => exact VR_of_VM (C0_cell_noFn c i j) (h.calm hf _ _ (C0_cell_low c i j) (C0_cell_noFn c i j) (VM_of_VR (C0_cell_noFn c i j) hi))
 | recs c => exact VR_of_VM (C1_cell_noFn c i j) (h.calm hf _ _ (C1_cell_low c i j) (C1_cell_noFn c i j) (VM_of_VR (C1_cell_noFn c i j) hi))
 | mat id xss =>
  have := VR_lift h hi
  simp only [Obj.cell, liftV, hfm] at this
  exact this
 | box n sz vs =>
  show VR M' ((vs.map (liftV f)).getD (i * sz + j) .any) u
  have hi' : VR M (vs.getD (i * sz + j) .any) u := hi
  simp only [List.getD_eq_getElem?_getD, List.getElem?_map] at hi' ⊢
  cases hv : vs[i * sz + j]? with
  | none =>
   rw [hv] at hi'
   exact VR_oneCell hi'
  | some v =>
   rw [hv] at hi'
   exact VR_lift h hi'
 | tail pre xs =>
  have hi' : VR M (tailCell pre xs (i + j)) u := hi
  show VR M' (tailCell (pre.map (liftV f)) xs (i + j)) u
  unfold tailCell at hi' ⊢
  rw [List.length_map]
  cases hb : Nat.ble pre.length (i + j)
  ·rw [hb] at hi'
   simp only [cond_false, List.getD_eq_getElem?_getD, List.getElem?_map] at hi' ⊢
   cases hv : pre[i + j]? with
   | none =>
    rw [hv] at hi'
    exact VR_oneCell hi'
   | some v =>
    rw [hv] at hi'
    exact VR_lift h hi'
  ·rw [hb] at hi'
   exact hi'
def sealV (id : Nat) (o : Obj) : V1 → V1
 | .rw id' off len => cond (Nat.beq id' id)
   (match o with
   | .flat c => .ro (c.sub off (nadd off len))
   | .recs c => .rs (c.sub off (nadd off len))
   | .box _ _ _ => .any
   | .mat _ _ => .any
   | .tail _ _ => .any) (.rw id' off len)
 | .ptr id' i j => cond (Nat.beq id' id) .any (.ptr id' i j)
 | v => v
def sealS (id : Nat) (s : St) : Option St :=
 match look id s.hp with
 | some o => cond (o.grows && big id) (some ⟨s.n, mapV (liftA (sealV id o)) s.tm, mapV (liftO (sealV id o)) (del id s.hp)⟩) none
 | none => none
theorem grows_plain (h : o.grows = true) : o.plain = true := by cases o <;> first | rfl | cases h
theorem sealV_low (id : Nat) (o : Obj) (v : V1) (h : v.low = true) (_ : noFn v = true) : sealV id o v = v := by cases v <;> first | rfl | cases h
theorem roSl_sub {sz n off len cap b p a : Nat} {C C' : Nat → Nat → Value → Prop} (hr : M.rowAt n sz C b p) (ha : a = p + off * sz) (hle : off + len ≤ n) (hcap : len ≤ cap) (hmax : cap ≤ maxLen) (hC : ∀ i j u, i < len → C (off + i) j u → C' i j u) :
  M.roSl len sz C' (.slice (some ⟨b, a, none⟩) len cap) := by
 refine ⟨_, cap, rfl, hcap, hmax, .inr ⟨b, a, rfl, hr.1, fun i hi j hj => ?_⟩⟩
 obtain ⟨u, hu, hc⟩ := hr.2 (off + i) (by omega) j hj
 refine ⟨u, ?_, hC i j u hi hc⟩
 rw [← hu, ha, Nat.add_mul]
 congr 2
 omega
theorem awk_seal (id : Nat) {s s' : St} (h : sealS id s = some s') : AWk s s' := fun M a hr => by
 unfold sealS at h
 split at h
 ·rename_i o ho
  cases hb : (o.grows && big id)
  ·rw [hb] at h; cases h
  ·rw [hb] at h
   simp only [cond_true, Option.some.injEq] at h
   subst h
   simp only [Bool.and_eq_true] at hb
   obtain ⟨hg, hbig⟩ := hb
   rw [← hr.hp] at ho
   have hM := hr.ok
   have hpl := grows_plain hg
   let M' : Mem := ⟨M.μ, mapV (liftO (sealV id o)) (del id s.hp), M.w, fun b => M.free b ∨ ∃ p, M.μ (id, none) = some (b, p)⟩
   have hlk : ∀ (x : Key) o', lk M'.H x = some o' → x.1 ≠ id ∧ ∃ o1, lk M.H x = some o1 ∧ o' = liftO (sealV id o) o1 := by
    intro x o' h
    have h' : lk (mapV (liftO (sealV id o)) (del id s.hp)) x = some o' := h
    rw [lk_lift, Option.map_eq_some_iff] at h'
    obtain ⟨o1, h1, rfl⟩ := h'
    by_cases hx : x.1 = id
    ·obtain ⟨x1, r⟩ := x
     simp only at hx
     subst hx
     rw [lk_del_self] at h1; cases h1
    ·rw [lk_del_ne hx] at h1
     exact ⟨hx, o1, by rw [hr.hp]; exact h1, rfl⟩
   have hlk' : ∀ (x : Key) o1, x.1 ≠ id → lk M.H x = some o1 → lk M'.H x = some (liftO (sealV id o) o1) := by
    intro x o1 hx h1
    show lk (mapV (liftO (sealV id o)) (del id s.hp)) x = _
    rw [lk_lift, lk_del_ne hx, ← hr.hp, h1]; rfl
   have hlive : ∀ b, M'.live b → M.live b := by
    rintro b ⟨x, o', p, h1, h2⟩
    obtain ⟨_, o1, h3, _⟩ := hlk x o' h1
    exact ⟨x, o1, p, h3, h2⟩
   have hdead : ∀ b p, M.μ (id, none) = some (b, p) → ¬ M'.live b := by
    rintro b p hm ⟨x, o', q, h1, h2⟩
    obtain ⟨hx, o1, h3, _⟩ := hlk x o' h1
    exact hx (congrArg Prod.fst (hM.inj x (id, none) o1 o b q p h3 ho h2 hm))
   have hkeep : Keep M M' := ⟨rfl, rfl, rfl, Nat.le_refl _, Nat.le_refl _, fun b _ hl => ⟨rfl, fun h => hl (hlive b h)⟩, fun b h => .inl h, fun b h => by
    rcases h with h | ⟨p, h⟩
    ·exact .inl h
    ·exact .inr (.inl ⟨(id, none), o, p, ho, h⟩)⟩
   have hrow : ∀ b p, M.μ (id, none) = some (b, p) → M'.rowAt o.len o.sz (fun i j u => VR M (o.cell i j) u) b p := by
    intro b p hm
    obtain ⟨cur, e, g1, g2, g3⟩ := hM.obj (id, none) o b p ho hm
    refine ⟨⟨.inr ⟨p, hm⟩, hdead b p hm⟩, fun i hi j hj => ?_⟩
    obtain ⟨u, k1, k2, k3⟩ := g3 i hi j hj
    exact ⟨u, (cell_of_row _ _ _ _ _ _ g1).trans k1, k3⟩
   have hturn : Turns (sealV id o) M M' := by
    intro v u hn hv
    have hnf : noFn (sealV id o v) = true := by
     cases v <;> first | rfl | (cases hn; done) | skip
     ·simp only [sealV]; cases Nat.beq _ id <;> rfl
     ·simp only [sealV]; cases Nat.beq _ id <;> first | rfl | (cases o <;> rfl)
    refine ⟨hnf, ?_⟩
    by_cases hlow : v.low = true
    ·rw [sealV_low id o v hlow hn, VM_low hlow]
     rw [VM_low hlow] at hv
     exact VF_keep hkeep hv
    ·cases v <;> first | exact absurd rfl hlow | skip
     case ptr x i j =>
      simp only [sealV]
      by_cases hx : x = id
      ·subst hx
       rw [beq_self]
       exact VM_oneCell hv
      ·rw [beq_ne hx]
       obtain ⟨o1, b, p, h1, h2, rfl⟩ := hv
       exact ⟨_, b, p, hlk' (x, none) o1 hx h1, h2, by rw [liftO_sz]⟩
     case mptr x i j =>
      obtain ⟨o1, b, p, h1, h2, rfl⟩ := hv
      have hx : x ≠ id := by rintro rfl; exact lk_plain ho hpl h1
      exact ⟨_, b, p, hlk' (x, some i) o1 hx h1, h2, by rw [liftO_sz]⟩
     case mrow x i len =>
      obtain ⟨o1, h1, h2, h3⟩ := hv
      have hx : x ≠ id := by rintro rfl; exact lk_plain ho hpl h1
      exact ⟨_, hlk' (x, some i) o1 hx h1, by rw [liftO_len]; exact h2, h3⟩
     case rw x off len =>
      simp only [sealV]
      by_cases hx : x = id
      ·subst hx
       rw [beq_self]
       obtain ⟨o1, h1, h2, h3⟩ := hv
       rw [lk_none, ho] at h1
       cases h1
       cases o with
       | flat c =>
        simp only [nadd_eq]
        have hlen := C0.sub_len c off (off + len) h2
        have e1 : off + len - off = len := by omega
        rw [e1] at hlen
        show M'.roSl (c.sub off (off + len)).len (c.sub off (off + len)).sz _ u
        rw [hlen, C0.sub_sz]
        rcases h3 with ⟨h3, A, rfl⟩ | ⟨b, p, a, cap, hm, rfl, k1, k2, k3, _⟩
        ·subst h3
         exact ⟨A, 0, rfl, Nat.le_refl _, Nat.zero_le _, .inl rfl⟩
        ·refine roSl_sub (hrow b p hm) k3 h2 k1 k2 fun i j u hi hu => ?_
         simp only [C0.sub_cell c off (off + len) i j (by omega)]
         exact C0_cell_back hu
       | recs c =>
        simp only [nadd_eq]
        have hlen := C1.sub_len c off (off + len) h2
        have e1 : off + len - off = len := by omega
        rw [e1] at hlen
        show M'.roSl (c.sub off (off + len)).len (c.sub off (off + len)).sz _ u
        rw [hlen, C1.sub_sz]
        rcases h3 with ⟨h3, A, rfl⟩ | ⟨b, p, a, cap, hm, rfl, k1, k2, k3, _⟩
        ·subst h3
         exact ⟨A, 0, rfl, Nat.le_refl _, Nat.zero_le _, .inl rfl⟩
        ·refine roSl_sub (hrow b p hm) k3 h2 k1 k2 fun i j u hi hu => ?_
         simp only [C1.sub_cell c off (off + len) i j (by omega)]
         exact VF_keep hkeep (C1_cell_back hu)
       | box n sz vs => cases hg
       | tail pre xs => cases hg
       | mat id' xss => cases hg
      ·rw [beq_ne hx]
       obtain ⟨o1, h1, h2, h3⟩ := hv
       refine ⟨_, hlk' (x, none) o1 hx h1, by rw [liftO_len]; exact h2, ?_⟩
       rw [liftO_sz]
       exact h3
     case rs c => exact roSl_mono hkeep c.sz_pos (fun _ _ _ h => VF_keep hkeep h) hv
     case rq c i j => exact roPt_mono hkeep (fun _ _ _ h => VF_keep hkeep h) hv
     case dm l => exact dm_keep hkeep hv
   refine ⟨M', ⟨rfl, ?_, hr.defers, hr.size, fun d v hd => ?_⟩, rfl, ⟨hkeep, fun x o1 hx h1 => ?_⟩⟩
   ·refine ⟨((show Named s.hp by rw [← hr.hp]; exact hM.named).del id).lift _, fun b hb => ?_, fun x y o1 o2 b p q hx hy hmx hmy => ?_, fun x o1 hx hm => ?_, fun x o1 b p hx hm => ?_⟩
    ·rcases hb with hb | ⟨p, hb⟩
     ·exact ⟨(hM.fr b hb).1, fun h => (hM.fr b hb).2 (hlive b h)⟩
     ·obtain ⟨cur, e, g1, _⟩ := hM.obj (id, none) o b p ho hb
      exact ⟨(Array.getElem?_eq_some_iff.1 g1).1, hdead b p hb⟩
    ·obtain ⟨_, a1, h1, _⟩ := hlk x o1 hx
     obtain ⟨_, a2, h2, _⟩ := hlk y o2 hy
     exact hM.inj x y a1 a2 b p q h1 h2 hmx hmy
    ·obtain ⟨_, a1, h1, rfl⟩ := hlk x o1 hx
     rw [liftO_len]; exact hM.none_ x a1 h1 hm
    ·obtain ⟨_, a1, h1, rfl⟩ := hlk x o1 hx
     obtain ⟨cur, e, g1, g2, g3⟩ := hM.obj x a1 b p h1 hm
     refine ⟨cur, e, g1, by rw [liftO_len, liftO_sz]; exact g2, fun i hi j hj => ?_⟩
     rw [liftO_len] at hi
     rw [liftO_sz] at hj ⊢
     obtain ⟨u, k1, k2, k3⟩ := g3 i hi j hj
     exact ⟨u, k1, k2, liftO_cell hturn (sealV_low id o) (fun _ _ _ => rfl) k3⟩
   ·have hd' : look d (mapV (liftA (sealV id o)) s.tm) = some v := hd
    rw [look_mapV, Option.map_eq_some_iff] at hd'
    obtain ⟨v0, h0, rfl⟩ := hd'
    obtain ⟨u, hu, hv⟩ := hr.tm d v0 h0
    exact ⟨u, hu, AVR_lift hturn hv⟩
   ·have hxi : x.1 ≠ id := by
     intro e
     rw [e, hbig] at hx; cases hx
    exact ⟨_, hlk' x o1 hxi h1, liftO_sz _ _, by rw [liftO_len]; exact Nat.le_refl _, rfl, fun b p cur e _ hc => ⟨cur, hc, rfl⟩⟩
 ·cases h
def renV (id y : Nat) : V1 → V1
 | .rw x off len => cond (Nat.beq x id) (.rw y off len) (.rw x off len)
 | .ptr x i j => cond (Nat.beq x id) (.ptr y i j) (.ptr x i j)
 | v => v
def renS (id y : Nat) (s : St) : Option St :=
 match look id s.hp, look y s.hp with
 | some o, none => cond (big id && o.plain) (some ⟨s.n, mapV (liftA (renV id y)) s.tm, ins y (liftO (renV id y) o) (mapV (liftO (renV id y)) (del id s.hp))⟩) none
 | _, _ => none
theorem renV_low (id y : Nat) (v : V1) (h : v.low = true) (_ : noFn v = true) : renV id y v = v := by cases v <;> first | rfl | cases h
theorem awk_ren (id y : Nat) {s s' : St} (h : renS id y s = some s') : AWk s s' := fun M a hr => by
 unfold renS at h
 split at h
 ·rename_i o ho hy
  cases hb0 : (big id && o.plain)
  ·rw [hb0] at h; cases h
  ·rw [hb0] at h
   simp only [cond_true, Option.some.injEq] at h
   subst h
   simp only [Bool.and_eq_true] at hb0
   obtain ⟨hb, hpl⟩ := hb0
   rw [← hr.hp] at ho hy
   have hM := hr.ok
   have hne : id ≠ y := by rintro rfl; rw [ho] at hy; cases hy
   let f := renV id y
   let M' : Mem := ⟨fun x => if x = (y, none) then M.μ (id, none) else M.μ x, ins y (liftO f o) (mapV (liftO f) (del id s.hp)), M.w, M.free⟩
   have hlk : ∀ (x : Key) o', lk M'.H x = some o' → ∃ (x1 : Key) (o1 : Obj), lk M.H x1 = some o1 ∧ o' = liftO f o1 ∧ M'.μ x = M.μ x1 ∧ (x = if x1 = (id, none) then (y, none) else x1) := by
    intro x o' h
    have h' : lk (ins y (liftO f o) (mapV (liftO f) (del id s.hp))) x = some o' := h
    by_cases hx : x.1 = y
    ·obtain ⟨x1, r⟩ := x
     simp only at hx
     subst hx
     cases r with
     | none =>
      rw [lk_ins_self] at h'
      cases h'
      exact ⟨(id, none), o, ho, rfl, by simp [M'], by simp⟩
     | some i => rw [lk_ins_row (by rw [liftO_plain]; exact hpl)] at h'; cases h'
    ·rw [lk_ins_ne hx, lk_lift, Option.map_eq_some_iff] at h'
     obtain ⟨o1, h1, rfl⟩ := h'
     by_cases hxi : x.1 = id
     ·obtain ⟨x1, r⟩ := x
      simp only at hxi
      subst hxi
      rw [lk_del_self] at h1; cases h1
     ·rw [lk_del_ne hxi] at h1
      have e1 : x ≠ (y, none) := by rintro rfl; exact hx rfl
      have e2 : x ≠ (id, none) := by rintro rfl; exact hxi rfl
      exact ⟨x, o1, by rw [hr.hp]; exact h1, rfl, by simp [M', e1], by simp [e2]⟩
   have hlk1 : lk M'.H (y, none) = some (liftO f o) := lk_ins_self _ _ _
   have hlk' : ∀ (x : Key) o1, x ≠ (id, none) → lk M.H x = some o1 → x ≠ (y, none) ∧ lk M'.H x = some (liftO f o1) := by
    intro x o1 hx h1
    have hxi : x.1 ≠ id := by
     intro e
     obtain ⟨x1, r⟩ := x
     simp only at e
     subst e
     cases r with
     | none => exact hx rfl
     | some i => exact lk_plain ho hpl h1
    have hxy : x.1 ≠ y := by
     intro e
     obtain ⟨x1, r⟩ := x
     simp only at e
     subst e
     cases r with
     | none => rw [lk_none, hy] at h1; cases h1
     | some i => obtain ⟨_, _, h2, _⟩ := lk_row h1; rw [hy] at h2; cases h2
    refine ⟨by rintro rfl; exact hxy rfl, ?_⟩
    show lk (ins y (liftO f o) (mapV (liftO f) (del id s.hp))) x = _
    rw [lk_ins_ne hxy, lk_lift, lk_del_ne hxi, ← hr.hp, h1]; rfl
   have hlive : ∀ b, M'.live b → M.live b := by
    rintro b ⟨x, o', p, h1, h2⟩
    obtain ⟨x1, o1, h3, _, h4, _⟩ := hlk x o' h1
    exact ⟨x1, o1, p, h3, by rw [← h4]; exact h2⟩
   have hkeep : Keep M M' := ⟨rfl, rfl, rfl, Nat.le_refl _, Nat.le_refl _, fun b _ hl => ⟨rfl, fun h => hl (hlive b h)⟩, fun b h => h, fun b h => .inl h⟩
   have hμy : M'.μ (y, none) = M.μ (id, none) := by simp [M']
   have hμo : ∀ x : Key, x ≠ (y, none) → M'.μ x = M.μ x := fun x hx => by show (if x = (y, none) then M.μ (id, none) else M.μ x) = _; rw [if_neg hx]
   have hturn : Turns f M M' := by
    intro v u hn hv
    have hnf : noFn (f v) = true := by
     cases v <;> first | rfl | (cases hn; done) | skip
     ·simp only [f, renV]; cases Nat.beq _ id <;> rfl
     ·simp only [f, renV]; cases Nat.beq _ id <;> rfl
    refine ⟨hnf, ?_⟩
    by_cases hlow : v.low = true
    ·rw [show f v = v from renV_low id y v hlow hn, VM_low hlow]
     rw [VM_low hlow] at hv
     exact VF_keep hkeep hv
    ·cases v <;> first | exact absurd rfl hlow | skip
     case ptr x i j =>
      simp only [f, renV]
      by_cases hx : x = id
      ·subst hx
       rw [beq_self]
       obtain ⟨o1, b, p, h1, h2, rfl⟩ := hv
       rw [lk_none, ho] at h1; cases h1
       exact ⟨_, b, p, hlk1, by rw [hμy]; exact h2, by rw [liftO_sz]⟩
      ·rw [beq_ne hx]
       obtain ⟨o1, b, p, h1, h2, rfl⟩ := hv
       obtain ⟨hxy, h3⟩ := hlk' (x, none) o1 (fun e => hx (congrArg Prod.fst e)) h1
       exact ⟨_, b, p, h3, by rw [hμo _ hxy]; exact h2, by rw [liftO_sz]⟩
     case rw x off len =>
      simp only [f, renV]
      by_cases hx : x = id
      ·subst hx
       rw [beq_self]
       obtain ⟨o1, h1, h2, h3⟩ := hv
       rw [lk_none, ho] at h1; cases h1
       refine ⟨_, hlk1, by rw [liftO_len]; exact h2, ?_⟩
       rw [liftO_sz, hμy]
       exact h3
      ·rw [beq_ne hx]
       obtain ⟨o1, h1, h2, h3⟩ := hv
       obtain ⟨hxy, h4⟩ := hlk' (x, none) o1 (fun e => hx (congrArg Prod.fst e)) h1
       refine ⟨_, h4, by rw [liftO_len]; exact h2, ?_⟩
       rw [liftO_sz, hμo _ hxy]
       exact h3
     case mptr x i j =>
      obtain ⟨o1, b, p, h1, h2, rfl⟩ := hv
      obtain ⟨hxy, h3⟩ := hlk' (x, some i) o1 (fun e => by cases e) h1
      exact ⟨_, b, p, h3, by rw [hμo _ hxy]; exact h2, by rw [liftO_sz]⟩
     case mrow x i len =>
      obtain ⟨o1, h1, h2, h3⟩ := hv
      obtain ⟨hxy, h4⟩ := hlk' (x, some i) o1 (fun e => by cases e) h1
      refine ⟨_, h4, by rw [liftO_len]; exact h2, ?_⟩
      rw [hμo _ hxy]
      exact h3
     case rs c => exact roSl_mono hkeep c.sz_pos (fun _ _ _ h => VF_keep hkeep h) hv
     case rq c i j => exact roPt_mono hkeep (fun _ _ _ h => VF_keep hkeep h) hv
     case dm l => exact dm_keep hkeep hv
   refine ⟨M', ⟨rfl, ?_, hr.defers, hr.size, fun d v hd => ?_⟩, rfl, ⟨hkeep, fun x o1 hx h1 => ?_⟩⟩
   ·refine ⟨(((show Named s.hp by rw [← hr.hp]; exact hM.named).del id).lift f).insP (by rw [liftO_plain]; exact hpl), fun b hb => ⟨(hM.fr b hb).1, fun h => (hM.fr b hb).2 (hlive b h)⟩, fun x z o1 o2 b p q hx hz hmx hmz => ?_, fun x o1 hx hm => ?_, fun x o1 b p hx hm => ?_⟩
    ·obtain ⟨x1, a1, h1, _, m1, e1⟩ := hlk x o1 hx
     obtain ⟨x2, a2, h2, _, m2, e2⟩ := hlk z o2 hz
     have := hM.inj x1 x2 a1 a2 b p q h1 h2 (by rw [← m1]; exact hmx) (by rw [← m2]; exact hmz)
     rw [e1, e2, this]
    ·obtain ⟨x1, a1, h1, rfl, m1, _⟩ := hlk x o1 hx
     rw [liftO_len]; exact hM.none_ x1 a1 h1 (by rw [← m1]; exact hm)
    ·obtain ⟨x1, a1, h1, rfl, m1, _⟩ := hlk x o1 hx
     obtain ⟨cur, e, g1, g2, g3⟩ := hM.obj x1 a1 b p h1 (by rw [← m1]; exact hm)
     refine ⟨cur, e, g1, by rw [liftO_len, liftO_sz]; exact g2, fun i hi j hj => ?_⟩
     rw [liftO_len] at hi
     rw [liftO_sz] at hj ⊢
     obtain ⟨u, k1, k2, k3⟩ := g3 i hi j hj
     exact ⟨u, k1, k2, liftO_cell hturn (renV_low id y) (fun _ _ _ => rfl) k3⟩
   ·have hd' : look d (mapV (liftA f) s.tm) = some v := hd
    rw [look_mapV, Option.map_eq_some_iff] at hd'
    obtain ⟨v0, h0, rfl⟩ := hd'
    obtain ⟨u, hu, hv⟩ := hr.tm d v0 h0
    exact ⟨u, hu, AVR_lift hturn hv⟩
   ·have hxi : x ≠ (id, none) := by
     rintro rfl
     rw [show big id = true from hb] at hx; cases hx
    obtain ⟨hxy, h3⟩ := hlk' x o1 hxi h1
    exact ⟨_, h3, liftO_sz _ _, by rw [liftO_len]; exact Nat.le_refl _, hμo x hxy, fun b p cur e _ hc => ⟨cur, hc, rfl⟩⟩
 ·cases h
theorem awk_empty (id : Nat) (o : Obj) (ho : o.len = 0) (hb : big id = true) (s : St) (hpl : o.plain = true := by rfl) : AWk s ⟨s.n, mapV (clrA (Nat.beq id)) s.tm, ins id o (mapV (clrO (Nat.beq id)) s.hp)⟩ := fun M a hr => by
 obtain ⟨h1, h2⟩ := MOk_free hr.ok id o hpl ho
 rw [← hr.hp]
 have h3 := hr.step rfl h1 h2
 exact ⟨_, h3, rfl, h2.mono (fun x hx => by have := Nat.eq_of_beq_eq_true hx; subst this; exact hb)⟩
def WkV (H : Heap) (v v' : V1) : Prop := ∀ M u, M.H = H → VR M v u → VR M v' u
theorem WkV.refl (H : Heap) (v : V1) : WkV H v v := fun _ _ _ h => h
theorem wkv_nils {id : Nat} (h : look id H = some o) : WkV H .nils (.rw id 0 0) := fun M u hH hv => by
 rw [show u = Value.slice none 0 0 from hv]
 exact ⟨o, by rw [hH]; exact h, by omega, .inl ⟨rfl, none, rfl⟩⟩
theorem wkv_nil0 {c : C0} (h : c.len = 0) : WkV H .nils (.ro c) := fun M u _ hv => by
 rw [show u = Value.slice none 0 0 from hv]
 exact ⟨none, 0, by rw [h], by rw [h]; exact Nat.le_refl _, Nat.zero_le _, .inl h⟩
theorem wkv_nil1 {c : C1} (h : c.len = 0) : WkV H .nils (.rs c) := fun M u _ hv => by
 rw [show u = Value.slice none 0 0 from hv]
 exact ⟨none, 0, by rw [h], by rw [h]; exact Nat.le_refl _, Nat.zero_le _, .inl h⟩
inductive WkA (H : Heap) : AV → AV → Prop where
 | refl (v : AV) : WkA H v v
 | one {v v' : V1} (h : WkV H v v') : WkA H (.one v) (.one v')
 | yes {g : Bool} {v v' : AV} (hg : g = true) (h : WkA H v v') : WkA H (.whn g v) v'
 | agg {vs vs' : List V1} (hl : vs.length = vs'.length) (h : ∀ (i : Nat) (v' : V1), vs'[i]? = some v' → ∃ v, vs[i]? = some v ∧ WkV H v v') : WkA H (.agg vs) (.agg vs')
theorem WkA.sound {v v' : AV} (h : WkA H v v') : ∀ {M : Mem} {u : Value}, M.H = H → AVR M v u → AVR M v' u := by
 induction h with
 | refl v => exact fun _ h => h
 | one h => exact fun hH hv => h _ _ hH hv
 | yes hg _ ih => exact fun hH hv => ih hH (hv.1 hg)
 | agg hl h =>
  intro M u hH hv
  obtain ⟨cs, rfl, hn, hc⟩ := hv
  refine ⟨cs, rfl, by omega, fun i v' hi => ?_⟩
  obtain ⟨v, hv, hw⟩ := h i v' hi
  obtain ⟨x, hx, hr⟩ := hc i v hv
  exact ⟨x, hx, hw _ _ hH hr⟩
theorem awk_slot (d : Nat) (v v' : AV) (s : St) (h : look d s.tm = some v) (hw : WkA s.hp v v') : AWk s ⟨s.n, ins d v' s.tm, s.hp⟩ := fun M a hr => by
 refine ⟨M, ⟨hr.hp, hr.ok, hr.defers, hr.size, fun e x he => ?_⟩, rfl, Ext.refl _ _⟩
 have he' : look e (ins d v' s.tm) = some x := he
 rw [look_ins] at he'
 by_cases hed : e = d
 ·rw [if_pos hed] at he'
  cases he'
  subst hed
  obtain ⟨u, hu, hv⟩ := hr.tm _ v h
  exact ⟨u, hu, hw.sound hr.hp hv⟩
 ·rw [if_neg hed] at he'
  exact hr.tm e x he'
theorem awk_obj (id : Nat) (o o' : Obj) (s : St) (h : look id s.hp = some o) (hl : o'.len = o.len) (hz : o'.sz = o.sz) (hw : ∀ i j, i < o.len → j < o.sz → WkV s.hp (o.cell i j) (o'.cell i j)) (hpo : o.plain = true := by rfl) (hpl : o'.plain = true := by rfl) : AWk s ⟨s.n, s.tm, ins id o' s.hp⟩ := fun M a hr => by
 have hM := hr.ok
 rw [← hr.hp] at h
 let M' : Mem := ⟨M.μ, ins id o' s.hp, M.w, M.free⟩
 have hlk : ∀ (x : Key) x', lk M'.H x = some x' → ∃ o1, lk M.H x = some o1 ∧ x'.len = o1.len ∧ x'.sz = o1.sz ∧ ∀ i j, i < o1.len → j < o1.sz → WkV s.hp (o1.cell i j) (x'.cell i j) := by
  intro x x' hx
  have hx' : lk (ins id o' s.hp) x = some x' := hx
  by_cases hxi : x.1 = id
  ·obtain ⟨x1, r⟩ := x
   simp only at hxi
   subst hxi
   cases r with
   | none =>
    rw [lk_ins_self] at hx'
    cases hx'
    exact ⟨o, h, hl, hz, hw⟩
   | some i => rw [lk_ins_row hpl] at hx'; cases hx'
  ·rw [lk_ins_ne hxi] at hx'
   exact ⟨x', by rw [hr.hp]; exact hx', rfl, rfl, fun _ _ _ _ => WkV.refl _ _⟩
 have hlk' : ∀ (x : Key) o1, lk M.H x = some o1 → ∃ x', lk M'.H x = some x' ∧ x'.sz = o1.sz ∧ o1.len ≤ x'.len := by
  intro x o1 hx
  by_cases hxi : x.1 = id
  ·obtain ⟨x1, r⟩ := x
   simp only at hxi
   subst hxi
   cases r with
   | none =>
    rw [lk_none, h] at hx; cases hx
    exact ⟨o', lk_ins_self _ _ _, hz, by omega⟩
   | some i => exact (lk_plain h hpo hx).elim
  ·exact ⟨o1, by show lk (ins id o' s.hp) x = _; rw [lk_ins_ne hxi, ← hr.hp]; exact hx, rfl, Nat.le_refl _⟩
 have hlive : ∀ b, M'.live b → M.live b := by
  rintro b ⟨x, x', p, h1, h2⟩
  obtain ⟨o1, h3, _⟩ := hlk x x' h1
  exact ⟨x, o1, p, h3, h2⟩
 have hext : Ext noX M M' := by
  refine ⟨⟨rfl, rfl, rfl, Nat.le_refl _, Nat.le_refl _, fun b _ hl => ⟨rfl, fun h => hl (hlive b h)⟩, fun b h => h, fun b h => .inl h⟩, fun x o1 _ hx => ?_⟩
  obtain ⟨x', h1, h2, h3⟩ := hlk' x o1 hx
  exact ⟨x', h1, h2, h3, rfl, fun b p cur e _ hc => ⟨cur, hc, rfl⟩⟩
 refine ⟨M', ⟨rfl, ?_, hr.defers, hr.size, fun d v hd => ?_⟩, rfl, hext.mono (fun x hx => by cases hx)⟩
 ·refine ⟨(show Named s.hp by rw [← hr.hp]; exact hM.named).insP hpl, fun b hb => ⟨(hM.fr b hb).1, fun h => (hM.fr b hb).2 (hlive b h)⟩, fun x y o1 o2 b p q hx hy hmx hmy => ?_, fun x o1 hx hm => ?_, fun x o1 b p hx hm => ?_⟩
  ·obtain ⟨a1, h1, _⟩ := hlk x o1 hx
   obtain ⟨a2, h2, _⟩ := hlk y o2 hy
   exact hM.inj x y a1 a2 b p q h1 h2 hmx hmy
  ·obtain ⟨a1, h1, h2, _⟩ := hlk x o1 hx
   rw [h2]; exact hM.none_ x a1 h1 hm
  ·obtain ⟨a1, h1, h2, h3, h4⟩ := hlk x o1 hx
   obtain ⟨cur, e, g1, g2, g3⟩ := hM.obj x a1 b p h1 hm
   refine ⟨cur, e, g1, by rw [h2, h3]; exact g2, fun i hi j hj => ?_⟩
   rw [h2] at hi
   rw [h3] at hj ⊢
   obtain ⟨u, k1, k2, k3⟩ := g3 i hi j hj
   exact ⟨u, k1, k2, VR_ext0 hext (h4 i j hi hj M u hr.hp k3)⟩
 ·obtain ⟨u, hu, hv⟩ := hr.tm d v hd
  exact ⟨u, hu, AVR_ext0 hext hv⟩
end Go.Ab
namespace Go.Ab
variable {x y : Nat} {ρ : List (Nat × Nat)} {f : V1 → V1} {H : Heap}
def backN : List (Nat × Nat) → Nat → Option Nat
 | [], _ => none
 | (x, y) :: r, z => cond (Nat.beq y z) (some x) (backN r z)
def isN : Option Nat → Nat → Bool
 | some x, y => Nat.beq x y
 | none, _ => false
theorem isN_some {o : Option Nat} (h : isN o y = true) : o = some y := by
 cases o with
 | none => cases h
 | some x => rw [Nat.eq_of_beq_eq_true h]
def okR (ρ : List (Nat × Nat)) : Bool := ρ.all fun p => (isN (backN ρ p.2) p.1 && isN (look p.1 ρ) p.2) && (!(strictId p.1) && !(strictId p.2))
theorem mem_of_look {α : Type} {v : α} : ∀ {l : List (Nat × α)}, look x l = some v → (x, v) ∈ l
 | [], h => by cases h
 | (k, u) :: r, h => by
  unfold look at h
  cases hb : Nat.beq k x
  ·rw [hb] at h; exact List.mem_cons_of_mem _ (mem_of_look h)
  ·rw [hb] at h
   obtain rfl := Nat.eq_of_beq_eq_true hb
   cases h
   exact List.mem_cons_self
theorem mem_of_back {z : Nat} : ∀ {ρ : List (Nat × Nat)}, backN ρ z = some x → (x, z) ∈ ρ
 | [], h => by cases h
 | (k, u) :: r, h => by
  unfold backN at h
  cases hb : Nat.beq u z
  ·rw [hb] at h; exact List.mem_cons_of_mem _ (mem_of_back h)
  ·rw [hb] at h
   obtain rfl := Nat.eq_of_beq_eq_true hb
   cases h
   exact List.mem_cons_self
theorem okR_back (h : okR ρ = true) (hl : look x ρ = some y) : backN ρ y = some x := by
 have := List.all_eq_true.1 h _ (mem_of_look hl)
 simp only [Bool.and_eq_true] at this
 exact isN_some this.1.1
theorem okR_small (h : okR ρ = true) (hl : look x ρ = some y) : strictId x = false ∧ strictId y = false := by
 have := List.all_eq_true.1 h _ (mem_of_look hl)
 simp only [Bool.and_eq_true, Bool.not_eq_true'] at this
 exact this.2
theorem okR_look (h : okR ρ = true) (hl : backN ρ y = some x) : look x ρ = some y := by
 have := List.all_eq_true.1 h _ (mem_of_back hl)
 simp only [Bool.and_eq_true] at this
 exact isN_some this.1.2
def inV (ρ : List (Nat × Nat)) (H : Heap) (lent : Bool) : V1 → V1
 | .rw id off len =>
  (match backN ρ id with
  | some x => .rw x off len
  | none => cond lent (match look id H with
   | some (.flat c) => .ro (c.sub off (nadd off len))
   | some (.recs c) => .rs (c.sub off (nadd off len))
   | some (.mat _ xss) => .rs ((C1.rows xss).sub off (nadd off len))
   | _ => .any) .any)
 | .ptr id i j => (match backN ρ id with | some x => .ptr x i j | none => .any)
 | .mrow id i len =>
  (match backN ρ id with
  | some x => .mrow x i len
  | none => cond lent (match look id H with
   | some (.mat _ xss) => .ro ((C0.ints .i64 (xss.getD i [])).sub 0 len)
   | _ => .any) .any)
 | .mptr id i j => (match backN ρ id with | some x => .mptr x i j | none => .any)
 | v => v
def outO (f : V1 → V1) (y : Nat) : Obj → Obj
 | .mat _ xss => .mat y xss
 | o => liftO f o
theorem outO_sz (f : V1 → V1) (y : Nat) (o : Obj) : (outO f y o).sz = o.sz := by cases o <;> rfl
theorem outO_len (f : V1 → V1) (y : Nat) (o : Obj) : (outO f y o).len = o.len := by
 cases o with
 | tail pre xs => exact liftO_len f (.tail pre xs)
 | _ => rfl
theorem outO_plain {o : Obj} (h : o.plain = true) : outO f y o = liftO f o := by cases o <;> first | rfl | cases h
def inH (H : Heap) (f : V1 → V1) : List (Nat × Nat) → Option Heap
 | [] => some []
 | (x, y) :: r =>
  (match look y H, inH H f r with
  | some o, some h => some ((x, outO f x o) :: h)
  | _, _ => none)
theorem inV_low (ρ : List (Nat × Nat)) (H : Heap) (lent : Bool) (v : V1) (h : v.low = true) (_ : noFn v = true) : inV ρ H lent v = v := by cases v <;> first | rfl | cases h
theorem inH_look : ∀ {ρ : List (Nat × Nat)} {h : Heap}, inH H f ρ = some h → ∀ x o', look x h = some o' ↔ ∃ y o, look x ρ = some y ∧ look y H = some o ∧ o' = outO f x o
 | [], h, e, x, o' => by
  simp only [inH, Option.some.injEq] at e
  subst e
  simp [look]
 | (k, y) :: r, h, e, x, o' => by
  unfold inH at e
  split at e
  ·rename_i o h1 ho hr
   simp only [Option.some.injEq] at e
   subst e
   have ih := inH_look hr x o'
   by_cases hb : k = x
   ·subst hb
    simp only [look, beq_self, cond_true, Option.some.injEq]
    constructor
    ·rintro rfl; exact ⟨y, o, rfl, ho, rfl⟩
    ·rintro ⟨y', o1, rfl, h2, rfl⟩
     rw [ho] at h2; cases h2; rfl
   ·simp only [look, beq_ne hb, cond_false]; exact ih
  ·cases e
theorem inH_lk {h : Heap} (e : inH H f ρ = some h) {x : Key} {o' : Obj} (hl : lk h x = some o') :
  ∃ y o, look x.1 ρ = some y ∧ lk H (y, x.2) = some o ∧ o'.len = o.len ∧ o'.sz = o.sz ∧ (x.2 = none → o' = outO f x.1 o) ∧ (x.2 ≠ none → o' = o ∧ ∃ xs, o = .flat (.ints .i64 xs)) := by
 obtain ⟨x, r⟩ := x
 cases r with
 | none =>
  obtain ⟨y, o, h1, h2, rfl⟩ := (inH_look e x o').1 hl
  exact ⟨y, o, h1, h2, outO_len _ _ _, outO_sz _ _ _, fun _ => rfl, fun h => absurd rfl h⟩
 | some i =>
  obtain ⟨id, xss, h2, h3, rfl⟩ := lk_row hl
  obtain ⟨y, o, h4, h5, h6⟩ := (inH_look e x _).1 h2
  cases o <;> first | (cases h6; done) | skip
  rename_i id1 xss1
  have h6' : Obj.mat id xss = Obj.mat x xss1 := h6
  cases h6'
  exact ⟨y, _, h4, lk_of_row h5 h3, rfl, rfl, fun h => (by cases h), fun _ => ⟨rfl, _, rfl⟩⟩
theorem inH_lk' {h : Heap} (e : inH H f ρ = some h) {r : Option Nat} {o : Obj} (hx : look x ρ = some y) (hl : lk H (y, r) = some o) :
  ∃ o', lk h (x, r) = some o' ∧ o'.len = o.len ∧ o'.sz = o.sz := by
 cases r with
 | none => exact ⟨_, (inH_look e x _).2 ⟨y, o, hx, hl, rfl⟩, outO_len _ _ _, outO_sz _ _ _⟩
 | some i =>
  obtain ⟨id, xss, h2, h3, rfl⟩ := lk_row hl
  have h4 : look x h = some (.mat x xss) := (inH_look e x _).2 ⟨y, _, hx, h2, rfl⟩
  exact ⟨_, lk_of_row h4 h3, rfl, rfl⟩
def outV (ρ : List (Nat × Nat)) (lent : Bool) : V1 → V1
 | .rw x off len => (match look x ρ with | some y => .rw y off len | none => .any)
 | .ptr x i j => (match look x ρ with | some y => .ptr y i j | none => .any)
 | .mrow x i len => (match look x ρ with | some y => .mrow y i len | none => .any)
 | .mptr x i j => (match look x ρ with | some y => .mptr y i j | none => .any)
 | .ro c => cond lent .any (.ro c)
 | .rp c i j => cond lent .any (.rp c i j)
 | .rs c => cond lent .any (.rs c)
 | .rq c i j => cond lent .any (.rq c i j)
 | .dm l => cond lent .any (.dm l)
 | v => v
def lentOk (lent : Bool) : Obj → Bool
 | .recs _ => !lent
 | _ => true
def outH (H1 : Heap) (lent : Bool) (g : V1 → V1) : List (Nat × Nat) → Heap → Option Heap
 | [], acc => some acc
 | (x, y) :: r, acc =>
  (match look x H1, outH H1 lent g r acc with
  | some o, some h => cond (lentOk lent o) (some (ins y (outO g y o) h)) none
  | _, _ => none)
theorem outH_look {H1 : Heap} {lent : Bool} {g : V1 → V1} : ∀ {ρ : List (Nat × Nat)} {acc h : Heap}, outH H1 lent g ρ acc = some h →
  ∀ z, (∀ x, backN ρ z = some x → ∃ o, look x H1 = some o ∧ lentOk lent o = true ∧ look z h = some (outO g z o)) ∧ (backN ρ z = none → look z h = look z acc)
 | [], acc, h, e, z => by
  simp only [outH, Option.some.injEq] at e
  subst e
  exact ⟨fun x hx => by (cases hx), fun _ => rfl⟩
 | (k, y) :: r, acc, h, e, z => by
  unfold outH at e
  split at e
  ·rename_i o h1 ho hr
   cases hk : lentOk lent o
   ·rw [hk] at e; cases e
   ·rw [hk] at e
    simp only [cond_true, Option.some.injEq] at e
    subst e
    have ih := outH_look hr z
    unfold backN
    by_cases hb : y = z
    ·subst hb
     simp only [beq_self, cond_true, look_ins]
     exact ⟨fun x hx => by (cases hx; exact ⟨o, ho, hk, by simp⟩), fun h => by (cases h)⟩
    ·simp only [beq_ne hb, cond_false, look_ins, if_neg (Ne.symm hb)]
     exact ih
  ·cases e
theorem roSl_map {M M' : Mem} {len sz : Nat} {C C' : Nat → Nat → Value → Prop} {v : Value} (h : M.roSl len sz C v) (hr : ∀ b off, 0 < len → M.rowAt len sz C b off → M'.rowAt len sz C' b off) : M'.roSl len sz C' v := by
 obtain ⟨A, cap, rfl, h1, h2, h3⟩ := h
 refine ⟨A, cap, rfl, h1, h2, ?_⟩
 rcases h3 with h3 | ⟨b, off, rfl, h4⟩
 ·exact .inl h3
 ·rcases Nat.eq_zero_or_pos len with h0 | h0
  ·exact .inl h0
  ·exact .inr ⟨b, off, rfl, hr b off h0 h4⟩
def callMem (M : Mem) (ρ : List (Nat × Nat)) (lent : Bool) (Hin : Heap) : Mem :=
 ⟨fun x => (look x.1 ρ).bind fun y => M.μ (y, x.2), Hin, M.w, fun b => M.free b ∨ (lent = true ∧ M.live b ∧ ∀ x y r o p, look x ρ = some y → lk M.H (y, r) = some o → M.μ (y, r) ≠ some (b, p))⟩
section
variable {M : Mem} {ρ : List (Nat × Nat)} {lent : Bool} {Hin : Heap}
variable {b : Nat}
theorem callMem_μ {x y : Nat} (h : look x ρ = some y) (r : Option Nat) : (callMem M ρ lent Hin).μ (x, r) = M.μ (y, r) := by
 show ((look x ρ).bind fun y => M.μ (y, r)) = _
 rw [h]; rfl
theorem callMem_live (hi : inH M.H (inV ρ M.H lent) ρ = some Hin) : (callMem M ρ lent Hin).live b ↔ ∃ x y r o p, look x ρ = some y ∧ lk M.H (y, r) = some o ∧ M.μ (y, r) = some (b, p) := by
 constructor
 ·rintro ⟨⟨x, r⟩, o', p, h1, h2⟩
  obtain ⟨y, o, h3, h4, _⟩ := inH_lk hi h1
  rw [callMem_μ h3] at h2
  exact ⟨x, y, r, o, p, h3, h4, h2⟩
 ·rintro ⟨x, y, r, o, p, h1, h2, h3⟩
  obtain ⟨o', h4, _⟩ := inH_lk' hi h1 h2
  exact ⟨(x, r), o', p, h4, by rw [callMem_μ h1]; exact h3⟩
theorem live_lt (hM : MOk M) {b : Nat} (h : M.live b) : b < M.w.heap.size := by
 obtain ⟨x, o, p, h1, h2⟩ := h
 obtain ⟨cur, e, g1, _⟩ := hM.obj x o b p h1 h2
 exact (Array.getElem?_eq_some_iff.1 g1).1
theorem callMem_keep (_hM : MOk M) (hi : inH M.H (inV ρ M.H lent) ρ = some Hin) : Keep M (callMem M ρ lent Hin) := by
 refine ⟨rfl, rfl, rfl, Nat.le_refl _, Nat.le_refl _, fun b _ hl => ⟨rfl, fun h => hl ?_⟩, fun b h => .inl h, fun b h => ?_⟩
 ·obtain ⟨x, y, r, o, p, _, h2, h3⟩ := (callMem_live hi).1 h
  exact ⟨(y, r), o, p, h2, h3⟩
 ·rcases h with h | ⟨_, h, _⟩
  ·exact .inl h
  ·exact .inr (.inl h)
theorem lent_row (hM : MOk M) (hi : inH M.H (inV ρ M.H lent) ρ = some Hin) (hR : okR ρ = true) (hlent : lent = true) {id : Key} {o : Obj} {p : Nat} (ho : lk M.H id = some o) (hm : M.μ id = some (b, p)) (hb : backN ρ id.1 = none) :
  (callMem M ρ lent Hin).rowAt o.len o.sz (fun i j u => VR M (o.cell i j) u) b p := by
 have hnot : ∀ x y r o1 q, look x ρ = some y → lk M.H (y, r) = some o1 → M.μ (y, r) ≠ some (b, q) := by
  intro x y r o1 q hl h1 hy
  have := hM.inj id (y, r) o o1 b p q ho h1 hm hy
  subst this
  rw [okR_back hR hl] at hb
  cases hb
 obtain ⟨cur, e, g1, g2, g3⟩ := hM.obj id o b p ho hm
 refine ⟨⟨.inr ⟨hlent, ⟨id, o, p, ho, hm⟩, hnot⟩, fun h => ?_⟩, fun i hi j hj => ?_⟩
 ·obtain ⟨x, y, r, o1, q, h1, h2, h3⟩ := (callMem_live hi).1 h
  exact hnot x y r o1 q h1 h2 h3
 ·obtain ⟨u, k1, k2, k3⟩ := g3 i hi j hj
  exact ⟨u, (cell_of_row _ _ _ _ _ _ g1).trans k1, k3⟩
theorem lent_mrow (hM : MOk M) (hi : inH M.H (inV ρ M.H lent) ρ = some Hin) (hR : okR ρ = true) (hlent : lent = true) {id i len : Nat} {id' : Nat} {xss : List (List Int)} {u : Value} (hx : look id M.H = some (.mat id' xss)) (hb : backN ρ id = none) (hv : M.keyRow (id, some i) len u) :
  (callMem M ρ lent Hin).roSl ((C0.ints .i64 (xss.getD i [])).sub 0 len).len ((C0.ints .i64 (xss.getD i [])).sub 0 len).sz (fun a b u => VB (((C0.ints .i64 (xss.getD i [])).sub 0 len).cell a b) u) u ∧ len ≤ (xss.getD i []).length := by
 obtain ⟨o, ho, h2, h3⟩ := hv
 obtain ⟨_, xs2, k1, k2, rfl⟩ := lk_row ho
 rw [hx] at k1; cases k1
 have h2' : len ≤ (C0.ints .i64 (xss.getD i [])).len := h2
 have hlen := C0.sub_len (C0.ints .i64 (xss.getD i [])) 0 len (by omega)
 refine ⟨?_, by have : (C0.ints .i64 (xss.getD i [])).len = (xss.getD i []).length := rfl; omega⟩
 rw [hlen, C0.sub_sz, Nat.sub_zero]
 rcases h3 with ⟨h3, A, cap, rfl, hcap, _⟩ | ⟨b, p, cap, hm, rfl, g1, g2, _⟩
 ·subst h3
  exact ⟨A, cap, rfl, Nat.zero_le _, hcap, .inl rfl⟩
 ·refine roSl_sub (off := 0) (lent_row hM hi hR hlent ho hm hb) (by rw [Nat.zero_mul, Nat.add_zero]) (by rw [Nat.zero_add]; exact h2) g1 g2 fun a j u hi hu => ?_
  simp only [C0.sub_cell (C0.ints .i64 (xss.getD i [])) 0 len a j (by omega)]
  exact C0_cell_back hu
theorem callMem_turns (hM : MOk M) (hi : inH M.H (inV ρ M.H lent) ρ = some Hin) (hR : okR ρ = true) : Turns (inV ρ M.H lent) M (callMem M ρ lent Hin) := by
 have hkeep := callMem_keep (lent := lent) hM hi
 intro v u hn hv
 have hnf : noFn (inV ρ M.H lent v) = true := by
  cases v <;> first | rfl | (cases hn; done) | skip
  ·simp only [inV]; split <;> rfl
  ·simp only [inV]
   split
   ·rfl
   ·cases lent
    ·rfl
    ·simp only [cond_true]; split <;> rfl
  ·simp only [inV]
   split
   ·rfl
   ·cases lent
    ·rfl
    ·simp only [cond_true]; split <;> rfl
  ·simp only [inV]; split <;> rfl
 refine ⟨hnf, ?_⟩
 by_cases hlow : v.low = true
 ·rw [inV_low ρ M.H lent v hlow hn, VM_low hlow]
  rw [VM_low hlow] at hv
  exact VF_keep hkeep hv
 ·cases v <;> first | exact absurd rfl hlow | skip
  case ptr id i j =>
   have h1 := VM_oneCell hv
   simp only [inV]
   split
   ·rename_i x hx
    clear h1
    obtain ⟨o, b, p, h1, h2, rfl⟩ := hv
    have hl := okR_look hR hx
    exact ⟨_, b, p, (inH_look hi x _).2 ⟨id, o, hl, h1, rfl⟩, by rw [callMem_μ hl]; exact h2, by rw [outO_sz]⟩
   ·exact h1
  case rw id off len =>
   have h1 := VM_oneCell hv
   simp only [inV]
   split
   ·rename_i x hx
    obtain ⟨o, h1, h2, h3⟩ := hv
    have hl := okR_look hR hx
    refine ⟨_, (inH_look hi x _).2 ⟨id, o, hl, h1, rfl⟩, by rw [outO_len]; exact h2, ?_⟩
    rw [outO_sz, callMem_μ hl]
    exact h3
   ·rename_i hx
    cases hlent : lent
    ·exact h1
    ·simp only [cond_true]
     rw [← hlent]
     obtain ⟨o, ho, h2, h3⟩ := hv
     rw [show look id M.H = some o from ho]
     cases o with
     | flat c =>
      simp only [nadd_eq]
      have hlen := C0.sub_len c off (off + len) h2
      have e1 : off + len - off = len := by omega
      rw [e1] at hlen
      show (callMem M ρ lent Hin).roSl (c.sub off (off + len)).len (c.sub off (off + len)).sz _ u
      rw [hlen, C0.sub_sz]
      rcases h3 with ⟨h3, A, rfl⟩ | ⟨b, p, a, cap, hm, rfl, k1, k2, k3, _⟩
      ·subst h3
       exact ⟨A, 0, rfl, Nat.le_refl _, Nat.zero_le _, .inl rfl⟩
      ·refine roSl_sub (lent_row hM hi hR hlent ho hm hx) k3 h2 k1 k2 fun i j u hi hu => ?_
       simp only [C0.sub_cell c off (off + len) i j (by omega)]
       exact C0_cell_back hu
     | recs c =>
      simp only [nadd_eq]
      have hlen := C1.sub_len c off (off + len) h2
      have e1 : off + len - off = len := by omega
      rw [e1] at hlen
      show (callMem M ρ lent Hin).roSl (c.sub off (off + len)).len (c.sub off (off + len)).sz _ u
      rw [hlen, C1.sub_sz]
      rcases h3 with ⟨h3, A, rfl⟩ | ⟨b, p, a, cap, hm, rfl, k1, k2, k3, _⟩
      ·subst h3
       exact ⟨A, 0, rfl, Nat.le_refl _, Nat.zero_le _, .inl rfl⟩
      ·refine roSl_sub (lent_row hM hi hR hlent ho hm hx) k3 h2 k1 k2 fun i j u hi hu => ?_
       simp only [C1.sub_cell c off (off + len) i j (by omega)]
       exact VF_keep hkeep (C1_cell_back hu)
     | box n sz vs => exact h1
     | tail pre xs => exact h1
     | mat id' xss =>
      simp only [nadd_eq]
      have h2' : off + len ≤ (C1.rows xss).len := h2
      have hlen := C1.sub_len (C1.rows xss) off (off + len) h2'
      have e1 : off + len - off = len := by omega
      rw [e1] at hlen
      show (callMem M ρ lent Hin).roSl ((C1.rows xss).sub off (off + len)).len ((C1.rows xss).sub off (off + len)).sz _ u
      rw [hlen, C1.sub_sz]
      have := hM.named _ _ _ ho
      subst this
      rcases h3 with ⟨h3, A, rfl⟩ | ⟨b, p, a, cap, hm, rfl, k1, k2, k3, _⟩
      ·subst h3
       exact ⟨A, 0, rfl, Nat.le_refl _, Nat.zero_le _, .inl rfl⟩
      ·refine roSl_sub (lent_row hM hi hR hlent ho hm hx) k3 h2 k1 k2 fun i j u hi2 hu => ?_
       simp only [C1.sub_cell (C1.rows xss) off (off + len) i j (by omega)]
       obtain ⟨q1, _⟩ := lent_mrow hM hi hR hlent ho hx hu
       have e2 : (C0.ints .i64 (xss.getD (off + i) [])).sub 0 (xss.getD (off + i) []).length = .ints .i64 (xss.getD (off + i) []) := by simp [C0.sub]
       rw [e2] at q1
       exact q1
  case mptr id i j =>
   have h1 := VM_oneCell hv
   simp only [inV]
   split
   ·rename_i x hx
    clear h1
    obtain ⟨o, b, p, h1, h2, rfl⟩ := hv
    have hl := okR_look hR hx
    obtain ⟨o', q1, q2, q3⟩ := inH_lk' hi hl h1
    exact ⟨o', b, p, q1, by rw [callMem_μ hl]; exact h2, by rw [q3]⟩
   ·exact h1
  case mrow id i len =>
   simp only [inV]
   have h1 := VM_oneCell hv
   split
   ·rename_i x hx
    obtain ⟨o, h1, h2, h3⟩ := hv
    have hl := okR_look hR hx
    obtain ⟨o', q1, q2, q3⟩ := inH_lk' hi hl h1
    refine ⟨o', q1, by rw [q2]; exact h2, ?_⟩
    rw [callMem_μ hl]
    exact h3.imp (fun ⟨a1, A, cap, a2, a3, _⟩ => ⟨a1, A, cap, a2, a3, fun hs => by rw [(okR_small hR hl).1] at hs; cases hs⟩) (fun h => h)
   ·rename_i hbk
    cases hlent : lent
    ·exact h1
    ·simp only [cond_true]
     rw [← hlent]
     split
     ·rename_i id' xss hx
      exact (lent_mrow hM hi hR hlent hx hbk hv).1
     ·exact h1
  case rs c => exact roSl_mono hkeep c.sz_pos (fun _ _ _ h => VF_keep hkeep h) hv
  case rq c i j => exact roPt_mono hkeep (fun _ _ _ h => VF_keep hkeep h) hv
  case dm l => exact dm_keep hkeep hv
theorem callMem_ok (hM : MOk M) (hi : inH M.H (inV ρ M.H lent) ρ = some Hin) (hR : okR ρ = true) : MOk (callMem M ρ lent Hin) := by
 have hturn := callMem_turns (lent := lent) hM hi hR
 refine ⟨fun x id xss h => ?_, fun b hb => ?_, fun x y o o' b p q hx hy hmx hmy => ?_, fun x o hx hm => ?_, fun x o b p hx hm => ?_⟩
 ·obtain ⟨y, o, _, _, h3⟩ := (inH_look hi x _).1 h
  cases o <;> first | (cases h3; done) | (cases h3; rfl)
 ·rcases hb with hb | ⟨_, hb, hnot⟩
  ·refine ⟨(hM.fr b hb).1, fun h => (hM.fr b hb).2 ?_⟩
   obtain ⟨x, y, r, o, p, _, h2, h3⟩ := (callMem_live hi).1 h
   exact ⟨(y, r), o, p, h2, h3⟩
  ·refine ⟨live_lt hM hb, fun h => ?_⟩
   obtain ⟨x, y, r, o, p, h1, h2, h3⟩ := (callMem_live hi).1 h
   exact hnot x y r o p h1 h2 h3
 ·obtain ⟨x, r⟩ := x
  obtain ⟨y, r'⟩ := y
  obtain ⟨x1, o1, h1, h2, _⟩ := inH_lk hi hx
  obtain ⟨y1, o2, h3, h4, _⟩ := inH_lk hi hy
  simp only at h1 h2 h3 h4
  rw [callMem_μ h1] at hmx
  rw [callMem_μ h3] at hmy
  have hk := hM.inj (x1, r) (y1, r') o1 o2 b p q h2 h4 hmx hmy
  have e0 := congrArg Prod.fst hk
  have e3 := congrArg Prod.snd hk
  simp only at e0 e3
  subst e0
  subst e3
  have e1 := okR_back hR h1
  rw [okR_back hR h3] at e1
  rw [Option.some.inj e1]
 ·obtain ⟨x, r⟩ := x
  obtain ⟨x1, o1, h1, h2, h3, _⟩ := inH_lk hi hx
  rw [h3]
  rw [callMem_μ h1] at hm
  exact hM.none_ (x1, r) o1 h2 hm
 ·obtain ⟨x, r⟩ := x
  obtain ⟨x1, o1, h1, h2, h3, h4, h5, h6⟩ := inH_lk hi hx
  simp only at h1 h2 h5 h6
  rw [callMem_μ h1] at hm
  obtain ⟨cur, e, g1, g2, g3⟩ := hM.obj (x1, r) o1 b p h2 hm
  refine ⟨cur, e, g1, by rw [h3, h4]; exact g2, fun i hi' j hj => ?_⟩
  rw [h3] at hi'
  rw [h4] at hj ⊢
  obtain ⟨u, k1, k2, k3⟩ := g3 i hi' j hj
  refine ⟨u, k1, k2, ?_⟩
  cases r with
  | some q =>
   obtain ⟨rfl, xs, rfl⟩ := h6 (by simp)
   exact C0_cell_VR (c := .ints .i64 xs) (i := i) (j := j) (C0_cell_back k3)
  | none =>
   rw [h5 rfl]
   cases hp : o1.plain
   ·cases o1 <;> first | (cases hp; done) | skip
    rename_i id' xss
    have := hM.named x1 id' xss h2
    subst this
    have k4 := (hturn (.mrow id' i (xss.getD i []).length) u rfl k3).2
    simp only [inV, okR_back hR h1] at k4
    exact k4
   ·rw [outO_plain hp]
    exact liftO_cellP hp hturn (inV_low ρ M.H lent) k3
end
variable {new : List (Nat × Nat)}
def newN (new : List (Nat × Nat)) (y : Nat) : Bool := (backN new y).isSome
def allBig : List (Nat × Nat) → Bool
 | [] => true
 | (_, y) :: r => big y && allBig r
def allSmall (new : List (Nat × Nat)) : List (Nat × Nat) → Bool
 | [] => true
 | (x, y) :: r => (!(big x) || newN new y) && allSmall new r
theorem newN_big (h : allBig new = true) {y : Nat} (hy : newN new y = true) : big y = true := by
 induction new with
 | nil => cases hy
 | cons p r ih =>
  obtain ⟨k, z⟩ := p
  simp only [allBig, Bool.and_eq_true] at h
  unfold newN backN at hy
  by_cases hb : z = y
  ·subst hb; exact h.1
  ·rw [beq_ne hb] at hy; exact ih h.2 hy
theorem small_of {ρ : List (Nat × Nat)} (h : allSmall new ρ = true) {x y : Nat} (hm : (x, y) ∈ ρ) (hn : newN new y = false) : big x = false := by
 induction ρ with
 | nil => cases hm
 | cons p r ih =>
  obtain ⟨k, z⟩ := p
  simp only [allSmall, Bool.and_eq_true, Bool.or_eq_true, Bool.not_eq_true'] at h
  rcases List.mem_cons.1 hm with e | hm
  ·cases e
   rcases h.1 with q | q
   ·exact q
   ·rw [hn] at q; cases q
  ·exact ih h.2 hm
def outMem (M M1 : Mem) (ρ : List (Nat × Nat)) (H2 : Heap) : Mem :=
 ⟨fun z => (match backN ρ z.1 with | some x => M1.μ (x, z.2) | none => M.μ z), H2, M1.w,
  fun b => M1.free b ∧ ¬ ∃ (z : Key) (o : Obj) (p : Nat), backN ρ z.1 = none ∧ lk M.H z = some o ∧ M.μ z = some (b, p)⟩
theorem back_app {ρ : List (Nat × Nat)} {z : Nat} : backN (ρ ++ new) z = (match backN ρ z with | some x => some x | none => backN new z) := by
 induction ρ with
 | nil => rfl
 | cons p r ih =>
  obtain ⟨k, y⟩ := p
  show cond (Nat.beq y z) (some k) (backN (r ++ new) z) = (match cond (Nat.beq y z) (some k) (backN r z) with | some x => some x | none => backN new z)
  cases Nat.beq y z
  ·exact ih
  ·rfl
section
variable {M M1 : Mem} {ρ new : List (Nat × Nat)} {lent : Bool} {Hin H2 : Heap}
theorem outMem_all (hM : MOk M) (hi : inH M.H (inV ρ M.H lent) ρ = some Hin) (hR : okR (ρ ++ new) = true) (hRi : okR ρ = true) (hsm : allSmall new ρ = true) (_hbig : allBig new = true) (hM1 : MOk M1) (he : Ext big (callMem M ρ lent Hin) M1)
  (ho : outH M1.H lent (outV (ρ ++ new) lent) (ρ ++ new) (mapV (clrO (newN new)) M.H) = some H2) :
  MOk (outMem M M1 (ρ ++ new) H2) ∧ Ext (newN new) M (outMem M M1 (ρ ++ new) H2) ∧ Turns (outV (ρ ++ new) lent) M1 (outMem M M1 (ρ ++ new) H2) := by
 let σ := ρ ++ new
 let M2 := outMem M M1 σ H2
 have hout := outH_look ho
 have hin1 : ∀ x y, look x ρ = some y → backN σ y = some x := by
  intro x y h
  show backN (ρ ++ new) y = _
  rw [back_app, okR_back hRi h]
 have hidden : ∀ (z : Key) o b p, backN σ z.1 = none → lk M.H z = some o → M.μ z = some (b, p) → b < M.w.heap.size ∧ ¬ (callMem M ρ lent Hin).live b := by
  intro z o b p hz h1 h2
  refine ⟨live_lt hM ⟨z, o, p, h1, h2⟩, fun h => ?_⟩
  obtain ⟨x, y, r, o1, q, k1, k2, k3⟩ := (callMem_live hi).1 h
  have := hM.inj z (y, r) o o1 b p q h1 k2 h2 k3
  subst this
  rw [hin1 x y k1] at hz
  cases hz
 have hstill : ∀ (z : Key) o b p, backN σ z.1 = none → lk M.H z = some o → M.μ z = some (b, p) → M1.w.heap[b]? = M.w.heap[b]? ∧ ¬ M1.live b := by
  intro z o b p hz h1 h2
  obtain ⟨h3, h4⟩ := hidden z o b p hz h1 h2
  exact he.still b h3 h4
 have hμ1 : ∀ (z : Key) x, backN σ z.1 = some x → M2.μ z = M1.μ (x, z.2) := by
  intro z x h
  show (match backN σ z.1 with | some x => M1.μ (x, z.2) | none => M.μ z) = _
  rw [h]
 have hμ0 : ∀ z : Key, backN σ z.1 = none → M2.μ z = M.μ z := by
  intro z h
  show (match backN σ z.1 with | some x => M1.μ (x, z.2) | none => M.μ z) = _
  rw [h]
 have hlk0 : ∀ z : Key, backN σ z.1 = none → lk M2.H z = lk (mapV (clrO (newN new)) M.H) z := fun z h => lk_congr ((hout z.1).2 h)
 have hl0 : ∀ (z : Key) o', backN σ z.1 = none → lk M2.H z = some o' → ∃ o, lk M.H z = some o ∧ o' = clrO (newN new) o := by
  intro z o' h h1
  rw [hlk0 z h] at h1
  exact lk_clr h1
 have hnew : ∀ z, backN σ z = none → newN new z = false := by
  intro z h
  have h' : backN (ρ ++ new) z = none := h
  rw [back_app] at h'
  unfold newN
  cases hb : backN ρ z with
  | some x => rw [hb] at h'; cases h'
  | none =>
   rw [hb] at h'
   simp only at h'
   rw [h']; rfl
 have hl0' : ∀ (z : Key) o, backN σ z.1 = none → lk M.H z = some o → lk M2.H z = some (clrO (newN new) o) := by
  intro z o h h1
  rw [hlk0 z h]
  exact lk_clr_of hM.named (hnew z.1 h) h1
 have hl1 : ∀ (z : Key) x o', backN σ z.1 = some x → lk M2.H z = some o' → ∃ o, lk M1.H (x, z.2) = some o ∧ (z.2 = none → lentOk lent o = true ∧ o' = outO (outV σ lent) z.1 o) ∧ (z.2 ≠ none → o' = o ∧ ∃ xs, o = .flat (.ints .i64 xs)) := by
  intro z x o' h h1
  obtain ⟨o1, k1, k2, k3⟩ := (hout z.1).1 x h
  have k3' : look z.1 M2.H = some (outO (outV σ lent) z.1 o1) := k3
  obtain ⟨z1, r⟩ := z
  cases r with
  | none =>
   rw [lk_none, k3'] at h1
   cases h1
   exact ⟨o1, k1, fun _ => ⟨k2, rfl⟩, fun h => absurd rfl h⟩
  | some i =>
   obtain ⟨id, xss, q1, q2, rfl⟩ := lk_row h1
   rw [k3'] at q1
   cases o1 <;> first | (cases q1; done) | skip
   rename_i id1 xss1
   have q1' : Obj.mat z1 xss1 = Obj.mat id xss := Option.some.inj q1
   cases q1'
   exact ⟨_, lk_of_row k1 q2, fun h => (by cases h), fun _ => ⟨rfl, _, rfl⟩⟩
 have hl1s : ∀ (z : Key) x o', backN σ z.1 = some x → lk M2.H z = some o' → ∃ o, lk M1.H (x, z.2) = some o ∧ o'.len = o.len ∧ o'.sz = o.sz := by
  intro z x o' h h1
  obtain ⟨o, k1, k2, k3⟩ := hl1 z x o' h h1
  by_cases hz : z.2 = none
  ·rw [(k2 hz).2]; exact ⟨o, k1, outO_len _ _ _, outO_sz _ _ _⟩
  ·rw [(k3 hz).1]; exact ⟨o, k1, rfl, rfl⟩
 have hlive : ∀ b, M2.live b → M1.live b ∨ ∃ (z : Key) (o : Obj) (p : Nat), backN σ z.1 = none ∧ lk M.H z = some o ∧ M.μ z = some (b, p) := by
  rintro b ⟨z, o, p, h1, h2⟩
  cases hz : backN σ z.1 with
  | some x =>
   obtain ⟨o1, k1, _, _⟩ := hl1 z x o hz h1
   refine .inl ⟨(x, z.2), o1, p, k1, ?_⟩
   rw [hμ1 z x hz] at h2
   exact h2
  | none =>
   obtain ⟨o1, k1, _⟩ := hl0 z o hz h1
   exact .inr ⟨z, o1, p, hz, k1, by rw [← hμ0 z hz]; exact h2⟩
 have hck := callMem_keep (lent := lent) hM hi
 have hfr : ∀ b, M2.free b → ¬ M2.live b := by
  rintro b ⟨h1, h2⟩ h3
  rcases hlive b h3 with h4 | h4
  ·exact (hM1.fr b h1).2 h4
  ·exact h2 h4
 have hkeep : Keep M M2 := by
  refine ⟨he.os, he.tape, he.output, he.drawn, he.size, fun b hb hl => ?_, fun b hb => ?_, fun b hb => ?_⟩
  ·have hl' : ¬ (callMem M ρ lent Hin).live b := (hck.still b hb hl).2
   obtain ⟨h1, h2⟩ := he.still b hb hl'
   refine ⟨h1, fun h => ?_⟩
   rcases hlive b h with h4 | ⟨z, o, p, _, k1, k2⟩
   ·exact h2 h4
   ·exact hl ⟨z, o, p, k1, k2⟩
  ·exact ⟨he.free_ b (.inl hb), fun ⟨z, o, p, _, k1, k2⟩ => (hM.fr b hb).2 ⟨z, o, p, k1, k2⟩⟩
  ·rcases he.only b hb.1 with h | h | h
   ·exact hck.only b h
   ·obtain ⟨x, y, r, o, p, _, h2, h3⟩ := (callMem_live hi).1 h
    exact .inr (.inl ⟨(y, r), o, p, h2, h3⟩)
   ·exact .inr (.inr h)
 have hext : Ext (newN new) M M2 := by
  refine ⟨hkeep, fun z o hX hz => ?_⟩
  cases hb : backN σ z.1 with
  | some x =>
   have hx : look x ρ = some z.1 := by
    have hb' : backN (ρ ++ new) z.1 = some x := hb
    rw [back_app] at hb'
    cases hbr : backN ρ z.1 with
    | some x' =>
     rw [hbr] at hb'
     cases hb'
     exact okR_look hRi hbr
    | none =>
     rw [hbr] at hb'
     simp only at hb'
     unfold newN at hX
     rw [hb'] at hX
     cases hX
   obtain ⟨z1, r⟩ := z
   simp only at hx hb
   have hsx := small_of hsm (mem_of_look hx) hX
   obtain ⟨o0, q1, q2, q3⟩ := inH_lk' hi hx hz
   obtain ⟨o1, k1, k2, k3, k4, k5⟩ := he.ids (x, r) o0 hsx q1
   obtain ⟨o1', j1, _, j2⟩ := (hout z1).1 x hb
   have hμc : (callMem M ρ lent Hin).μ (x, r) = M.μ (z1, r) := callMem_μ hx r
   have hlast : ∃ o2, lk M2.H (z1, r) = some o2 ∧ o2.len = o1.len ∧ o2.sz = o1.sz := by
    cases r with
    | none =>
     rw [lk_none, j1] at k1; cases k1
     exact ⟨_, j2, outO_len _ _ _, outO_sz _ _ _⟩
    | some i =>
     obtain ⟨id, xss, p1, p2, rfl⟩ := lk_row k1
     rw [j1] at p1; cases p1
     exact ⟨_, lk_of_row j2 p2, rfl, rfl⟩
   obtain ⟨o2, l1, l2, l3⟩ := hlast
   exact ⟨o2, l1, by rw [l3, k2, q3], by rw [l2]; rw [q2] at k3; exact k3, by rw [hμ1 (z1, r) x hb, k4, hμc], fun b p cur e hm hc => k5 b p cur e (by rw [hμc]; exact hm) hc⟩
  | none =>
   refine ⟨clrO (newN new) o, hl0' z o hb hz, clrO_sz _ _, by rw [clrO_len]; exact Nat.le_refl _, hμ0 z hb, fun b p cur e hm hc => ⟨cur, ?_, rfl⟩⟩
   exact (hstill z o b p hb hz hm).1.trans hc
 have hfree2 : lent = false → ∀ b, M1.free b → M2.free b := by
   intro hlent b hf
   refine ⟨hf, ?_⟩
   rintro ⟨z, o, p, hz, k1, k2⟩
   obtain ⟨h3, h4⟩ := hidden z o b p hz k1 k2
   rcases he.only b hf with h | h | h
   ·rcases h with h | ⟨h, _⟩
    ·exact (hM.fr b h).2 ⟨z, o, p, k1, k2⟩
    ·rw [hlent] at h; cases h
   ·exact h4 h
   ·exact Nat.lt_irrefl _ (Nat.lt_of_lt_of_le h3 h)
 have hrow : lent = false → ∀ len sz (C C' : Nat → Nat → Value → Prop) b off, 0 < len → 0 < sz → (∀ i j u, C i j u → C' i j u) → M1.rowAt len sz C b off → M2.rowAt len sz C' b off := by
  intro hlent len sz C C' b off _ _ hC hr
  obtain ⟨⟨hf, _⟩, hc⟩ := hr
  have hf2 : M2.free b := hfree2 hlent b hf
  exact ⟨⟨hf2, hfr b hf2⟩, fun i hi j hj => (hc i hi j hj).imp fun u hu => ⟨hu.1, hC i j u hu.2⟩⟩
 have hVF : lent = false → ∀ v u, VF M1 v u → VF M2 v u := by
  intro hlent v u h
  cases v <;> simp only [VF] at h ⊢ <;> try exact h
  case ro c => exact roSl_map h fun b off h0 hr => hrow hlent _ _ _ _ b off h0 c.sz_pos (fun _ _ _ h => h) hr
  case rp c i j =>
   obtain ⟨h1, h2, b, off, rfl, hr⟩ := h
   exact ⟨h1, h2, b, off, rfl, hrow hlent _ _ _ _ b off (by omega) c.sz_pos (fun _ _ _ h => h) hr⟩
 have hturn : Turns (outV σ lent) M1 M2 := by
  intro v u hn hv
  have h1c := VM_oneCell hv
  have hnf : noFn (outV σ lent v) = true := by
   cases v <;> first | rfl | (cases hn; done) | (simp only [outV]; split <;> rfl) | (simp only [outV]; cases lent <;> rfl)
  refine ⟨hnf, ?_⟩
  cases v <;> first | exact hv | (cases hn; done) | skip
  case ptr x i j =>
   simp only [outV]
   split
   ·rename_i y hy
    obtain ⟨o, b, p, h1, h2, rfl⟩ := hv
    have hb := okR_back hR hy
    obtain ⟨o1, j1, _, j2⟩ := (hout y).1 x hb
    rw [lk_none, j1] at h1; cases h1
    exact ⟨_, b, p, j2, by rw [hμ1 (y, none) x hb]; exact h2, by rw [outO_sz]⟩
   ·exact h1c
  case rw x off len =>
   simp only [outV]
   split
   ·rename_i y hy
    obtain ⟨o, h1, h2, h3⟩ := hv
    have hb := okR_back hR hy
    obtain ⟨o1, j1, _, j2⟩ := (hout y).1 x hb
    rw [lk_none, j1] at h1; cases h1
    refine ⟨_, j2, by rw [outO_len]; exact h2, ?_⟩
    rw [outO_sz, hμ1 (y, none) x hb]
    exact h3
   ·exact h1c
  case mrow x i len =>
   simp only [outV]
   split
   ·rename_i y hy
    obtain ⟨o, h1, h2, h3⟩ := hv
    obtain ⟨id, xss, q1, q2, rfl⟩ := lk_row h1
    have hb := okR_back hR hy
    obtain ⟨o1, j1, _, j2⟩ := (hout y).1 x hb
    rw [q1] at j1; cases j1
    refine ⟨_, lk_of_row j2 q2, h2, ?_⟩
    rw [hμ1 (y, some i) x hb]
    exact h3.imp (fun ⟨a1, A, cap, a2, a3, _⟩ => ⟨a1, A, cap, a2, a3, fun hs => by rw [(okR_small hR hy).2] at hs; cases hs⟩) (fun h => h)
   ·exact h1c
  case mptr x i j =>
   simp only [outV]
   split
   ·rename_i y hy
    obtain ⟨o, b, p, h1, h2, rfl⟩ := hv
    obtain ⟨id, xss, q1, q2, rfl⟩ := lk_row h1
    have hb := okR_back hR hy
    obtain ⟨o1, j1, _, j2⟩ := (hout y).1 x hb
    rw [q1] at j1; cases j1
    exact ⟨_, b, p, lk_of_row j2 q2, by rw [hμ1 (y, some i) x hb]; exact h2, rfl⟩
   ·exact h1c
  case ro c =>
   simp only [outV]
   cases hlent : lent
   ·exact hVF hlent (.ro c) _ hv
   ·exact h1c
  case rp c i j =>
   simp only [outV]
   cases hlent : lent
   ·exact hVF hlent (.rp c i j) _ hv
   ·exact h1c
  case rs c =>
   simp only [outV]
   cases hlent : lent
   ·exact roSl_map hv fun b off h0 hr => hrow hlent _ _ _ _ b off h0 c.sz_pos (fun i j u h => hVF hlent _ _ h) hr
   ·exact h1c
  case rq c i j =>
   simp only [outV]
   cases hlent : lent
   ·obtain ⟨h1, h2, b, off, rfl, hr⟩ := hv
    exact ⟨h1, h2, b, off, rfl, hrow hlent _ _ _ _ b off (by omega) c.sz_pos (fun i j u h => hVF hlent _ _ h) hr⟩
   ·exact h1c
  case dm l =>
   simp only [outV]
   cases hlent : lent
   ·obtain ⟨b, rfl, ⟨hf, _⟩, es, h1, h2, h3⟩ := hv
    have hf2 := hfree2 hlent b hf
    refine ⟨b, rfl, ⟨hf2, hfr b hf2⟩, es, h1, h2, fun i x hx => ?_⟩
    obtain ⟨e, q1, q2, q3, cs, q4, q5, q6⟩ := h3 i x hx
    exact ⟨e, q1, q2, q3, cs, q4, q5, fun j hj => (q6 j hj).imp fun u hu => ⟨hu.1, hVF hlent _ _ hu.2⟩⟩
   ·exact h1c
 refine ⟨⟨fun z id xss h => ?_, fun b hb => ⟨(hM1.fr b hb.1).1, hfr b hb⟩, fun z1 z2 o1 o2 b p q h1 h2 m1 m2 => ?_, fun z o hz hm => ?_, fun z o b p hz hm => ?_⟩, hext, hturn⟩
 ·cases hb : backN σ z with
  | some x =>
   obtain ⟨o1, _, k2, _⟩ := hl1 (z, none) x _ hb h
   have k3 := (k2 rfl).2
   cases o1 <;> first | (cases k3; done) | (cases k3; rfl)
  | none =>
   have h' : look z M2.H = look z (mapV (clrO (newN new)) M.H) := (hout z).2 hb
   exact (hM.named.clr _) z id xss (by rw [← h']; exact h)
 ·cases hz1 : backN σ z1.1 with
  | some x1 =>
   obtain ⟨a1, j1, _⟩ := hl1 z1 x1 o1 hz1 h1
   rw [hμ1 z1 x1 hz1] at m1
   cases hz2 : backN σ z2.1 with
   | some x2 =>
    obtain ⟨a2, j2, _⟩ := hl1 z2 x2 o2 hz2 h2
    rw [hμ1 z2 x2 hz2] at m2
    have hk := hM1.inj (x1, z1.2) (x2, z2.2) a1 a2 b p q j1 j2 m1 m2
    have := congrArg Prod.fst hk
    simp only at this
    subst this
    have e1 := okR_look hR hz1
    rw [okR_look hR hz2] at e1
    exact Prod.ext (Option.some.inj e1).symm (by have h2 := congrArg Prod.snd hk; exact h2)
   | none =>
    obtain ⟨a2, j2, _⟩ := hl0 z2 o2 hz2 h2
    rw [hμ0 z2 hz2] at m2
    exact absurd ⟨(x1, z1.2), a1, p, j1, m1⟩ (hstill z2 a2 b q hz2 j2 m2).2
  | none =>
   obtain ⟨a1, j1, _⟩ := hl0 z1 o1 hz1 h1
   rw [hμ0 z1 hz1] at m1
   cases hz2 : backN σ z2.1 with
   | some x2 =>
    obtain ⟨a2, j2, _⟩ := hl1 z2 x2 o2 hz2 h2
    rw [hμ1 z2 x2 hz2] at m2
    exact absurd ⟨(x2, z2.2), a2, q, j2, m2⟩ (hstill z1 a1 b p hz1 j1 m1).2
   | none =>
    obtain ⟨a2, j2, _⟩ := hl0 z2 o2 hz2 h2
    rw [hμ0 z2 hz2] at m2
    exact hM.inj z1 z2 a1 a2 b p q j1 j2 m1 m2
 ·cases hb : backN σ z.1 with
  | some x =>
   obtain ⟨a1, j1, e1, _⟩ := hl1s z x o hb hz
   rw [e1]
   exact hM1.none_ (x, z.2) a1 j1 (by rw [← hμ1 z x hb]; exact hm)
  | none =>
   obtain ⟨a1, j1, rfl⟩ := hl0 z o hb hz
   rw [clrO_len]
   exact hM.none_ z a1 j1 (by rw [← hμ0 z hb]; exact hm)
 ·cases hb : backN σ z.1 with
  | some x =>
   obtain ⟨a1, j1, hn, hs⟩ := hl1 z x o hb hz
   rw [hμ1 z x hb] at hm
   obtain ⟨cur, e, g1, g2, g3⟩ := hM1.obj (x, z.2) a1 b p j1 hm
   by_cases hz2 : z.2 = none
   ·obtain ⟨hk, rfl⟩ := hn hz2
    refine ⟨cur, e, g1, by rw [outO_len, outO_sz]; exact g2, fun i hi' j hj => ?_⟩
    rw [outO_len] at hi'
    rw [outO_sz] at hj ⊢
    obtain ⟨u, k1, k2, k3⟩ := g3 i hi' j hj
    refine ⟨u, k1, k2, ?_⟩
    cases a1 with
    | flat c => exact C0_cell_VR (C0_cell_back k3)
    | recs c =>
     simp only [lentOk, Bool.not_eq_true'] at hk
     exact C1_cell_VR (hVF hk _ _ (C1_cell_back k3))
    | mat id' xss =>
     rw [hz2] at j1
     have := hM1.named x id' xss j1
     subst this
     have k4 := (hturn (.mrow id' i (xss.getD i []).length) u rfl k3).2
     have hl : look id' σ = some z.1 := okR_look hR hb
     simp only [outV, hl] at k4
     exact k4
    | box n sz vs =>
     show VR M2 ((vs.map (liftV (outV σ lent))).getD (i * sz + j) .any) u
     have hi2 : VR M1 (vs.getD (i * sz + j) .any) u := k3
     simp only [List.getD_eq_getElem?_getD, List.getElem?_map] at hi2 ⊢
     cases hv : vs[i * sz + j]? with
     | none =>
      rw [hv] at hi2
      exact VR_oneCell hi2
     | some v =>
      rw [hv] at hi2
      exact VR_lift hturn hi2
    | tail pre xs =>
     have hi2 : VR M1 (tailCell pre xs (i + j)) u := k3
     show VR M2 (tailCell (pre.map (liftV (outV σ lent))) xs (i + j)) u
     unfold tailCell at hi2 ⊢
     rw [List.length_map]
     cases hbb : Nat.ble pre.length (i + j)
     ·rw [hbb] at hi2
      simp only [cond_false, List.getD_eq_getElem?_getD, List.getElem?_map] at hi2 ⊢
      cases hv : pre[i + j]? with
      | none =>
       rw [hv] at hi2
       exact VR_oneCell hi2
      | some v =>
       rw [hv] at hi2
       exact VR_lift hturn hi2
     ·rw [hbb] at hi2
      exact hi2
   ·obtain ⟨rfl, xs, rfl⟩ := hs hz2
    refine ⟨cur, e, g1, g2, fun i hi' j hj => ?_⟩
    obtain ⟨u, k1, k2, k3⟩ := g3 i hi' j hj
    exact ⟨u, k1, k2, C0_cell_VR (c := .ints .i64 xs) (i := i) (j := j) (C0_cell_back k3)⟩
  | none =>
   obtain ⟨a1, j1, rfl⟩ := hl0 z o hb hz
   rw [hμ0 z hb] at hm
   obtain ⟨cur, e, g1, g2, g3⟩ := hM.obj z a1 b p j1 hm
   refine ⟨cur, e, (hstill z a1 b p hb j1 hm).1.trans g1, by rw [clrO_len, clrO_sz]; exact g2, fun i hi' j hj => ?_⟩
   rw [clrO_len] at hi'
   rw [clrO_sz] at hj ⊢
   obtain ⟨u, k1, k2, k3⟩ := g3 i hi' j hj
   refine ⟨u, k1, k2, ?_⟩
   rw [clrO_cell]
   exact VR_ext hext k3
end
end Go.Ab
namespace Go.Ab
def ArgsR (M : Mem) (vs : List AV) (us : List Value) : Prop := us.length = vs.length ∧ ∀ (i : Nat) (v : AV), vs[i]? = some v → ∃ u, us[i]? = some u ∧ AVR M v u
structure ACall (P : Program) (f : FuncId) (args : List AV) (Hin : Heap) (Φ : AV → Heap → Prop) : Prop where
 fn : ∃ fn, P.funcs[f]? = some fn ∧ (fn.name == "runtime.NumGoroutine") = false ∧ fn.body.isNone = false
 run : ∀ M us, M.H = Hin → MOk M → ArgsR M args us → Calls P f us.toArray M.w (fun e w' => ∃ v u M', e = .returned u ∧ Φ v M'.H ∧ AVR M' v u ∧ MOk M' ∧ M'.w = w' ∧ Ext big M M')
theorem ACall.mono {P : Program} {f : FuncId} {args : List AV} {Hin : Heap} {Φ Ψ : AV → Heap → Prop} (h : ACall P f args Hin Φ) (k : ∀ v H, Φ v H → Ψ v H) : ACall P f args Hin Ψ :=
 ⟨h.fn, fun M us hH hM ha => (h.run M us hH hM ha).mono fun _e _w' ⟨v, u, M', h1, h2, h3⟩ => ⟨v, u, M', h1, k _ _ h2, h3⟩⟩
def resE : AV → Option (Bool × List V1)
 | .one v => some (false, [v])
 | .agg vs => some (true, vs)
 | _ => none
def resT (T : Nat → Option TI) (s : St) : ResultVar → Option (List Prop × (Bool × List V1))
 | .tmp t => (match (look t s.tm).bind resE with | some e => some ([], e) | none => none)
 | .cell t ty => (match look t s.tm with
  | some a => (match stLoad T s.hp ty a with
   | some (cs, v) => (match resE v with | some e => some (cs, e) | none => none)
   | none => none)
  | none => none)
def resA : Bool × List V1 → Option AV
 | (true, vs) => some (.agg vs)
 | (false, [v]) => some (.one v)
 | _ => none
def resOf (T : Nat → Option TI) (s : St) : List ResultVar → Option (List Prop × AV)
 | [] => some ([], .tup [])
 | [a] => (match resT T s a with | some (cs, x) => (match resA x with | some v => some (cs, v) | none => none) | none => none)
 | [a, b] => (match resT T s a, resT T s b with | some (c1, x), some (c2, y) => some (c1 ++ c2, .tup [x, y]) | _, _ => none)
 | [a, b, c] => (match resT T s a, resT T s b, resT T s c with | some (c1, x), some (c2, y), some (c3, z) => some (c1 ++ (c2 ++ c3), .tup [x, y, z]) | _, _, _ => none)
 | [a, b, c, d] => (match resT T s a, resT T s b, resT T s c, resT T s d with | some (c1, x), some (c2, y), some (c3, z), some (c4, q) => some (c1 ++ (c2 ++ (c3 ++ c4)), .tup [x, y, z, q]) | _, _, _, _ => none)
 | _ => none
def resCut (T : Nat → Option TI) (s : St) (rs : List ResultVar) (hs : List Nat) : Option (List Prop × AV × Heap) :=
 match resOf T s rs with
 | some (cs, v) => (match cutS [0] hs ⟨1, [(0, v)], s.hp⟩ with
  | ⟨_, [(_, v')], H⟩ => some (cs, v', H)
  | _ => none)
 | none => none
section
variable {P : Program} {T : Nat → Option TI} {M : Mem} {s : St} {a : Act}
def resF (tmps : Array Value) : ResultVar → Sem Value
 | .tmp t => pure (tmps.getD t undef)
 | .cell a t => do loadVar t (← asAddr (tmps.getD a undef))
theorem resE_sound {v : AV} {e : Bool × List V1} {u : Value} (h : resE v = some e) (hv : AVR M v u) : ER M e u := by
 cases v with
 | one v => cases h; exact hv
 | agg vs => cases h; exact hv
 | tup es => cases h
 | whn g v => cases h
theorem resT_sound {r : ResultVar} {cs : List Prop} {e : Bool × List V1} (hT : ∀ t i, T t = some i → TF P t i) (hr : Rel M s a) (h : resT T s r = some (cs, e)) (hc : AllP cs) : ∃ u, (resF a.tmps r).run P M.w = .ok u M.w ∧ ER M e u := by
 cases r with
 | tmp t =>
  simp only [resT] at h
  cases hl : look t s.tm with
  | none => rw [hl] at h; cases h
  | some v =>
   rw [hl] at h
   obtain ⟨u, hu, hv⟩ := hr.tm t v hl
   refine ⟨u, by simp [resF, hu], ?_⟩
   simp only [Option.bind_some] at h
   split at h
   ·rename_i e' he
    cases h
    exact resE_sound he hv
   ·cases h
 | cell t ty =>
  simp only [resT] at h
  cases hl : look t s.tm with
  | none => rw [hl] at h; cases h
  | some v =>
   rw [hl] at h
   obtain ⟨u, hu, hv⟩ := hr.tm t v hl
   simp only at h
   split at h
   ·rename_i cs1 v1 hld
    split at h
    ·rename_i e' he
     cases h
     rw [← hr.hp] at hld
     obtain ⟨u1, hrun, hv1⟩ := stLoad_sound (P := P) hT hr.ok hld hv hc
     refine ⟨u1, ?_, resE_sound he hv1⟩
     have hget : a.tmps.getD t undef = u := by simp [hu]
     simp only [resF, hget]
     unfold stLoad at hld
     split at hld
     ·rename_i v0
      split at hld
      ·rename_i ti own n z f i j hti hin
       obtain ⟨_, b, p, rfl, _⟩ := ptrInto_sound hr.ok hin hv
       simpa [Instr.loadAt, Instr.sureAddr, asAddr] using hrun
      ·cases hld
     ·cases hld
    ·cases h
   ·cases h
theorem results_resF {fn : Func} {rs : List ResultVar} (hfn : fn.results = rs.toArray) (tmps : Array Value) : results fn tmps = (do
  let vs ← rs.toArray.mapM (resF tmps)
  pure (if h : vs.size = 1 then vs[0] else .tuple vs)) := by
 rw [← hfn]; rfl
theorem resOf_sound {fn : Func} {rs : List ResultVar} {cs : List Prop} {v : AV} (hT : ∀ t i, T t = some i → TF P t i) (hfn : fn.results = rs.toArray) (hr : Rel M s a) (h : resOf T s rs = some (cs, v)) (hc : AllP cs) : ∃ u, (results fn a.tmps).run P M.w = .ok u M.w ∧ AVR M v u := by
 rw [results_resF hfn]
 unfold resOf at h
 split at h
 ·cases h
  exact ⟨.tuple #[], by simp, ⟨[], rfl, rfl, fun i e hi => by simp at hi⟩⟩
 ·rename_i r
  split at h
  ·rename_i cs1 x hx
   split at h
   ·rename_i v1 hv1
    cases h
    obtain ⟨u, hu, hv⟩ := resT_sound (P := P) hT hr hx hc
    refine ⟨u, by simp [hu], ?_⟩
    match x, hv1, hv with
    | (true, vs), hv1, hv => cases hv1; exact hv
    | (false, [q]), hv1, hv => cases hv1; exact hv
   ·cases h
  ·cases h
 ·rename_i r1 r2
  split at h
  ·rename_i c1 x c2 y hx hy
   cases h
   obtain ⟨k1, k2⟩ := AllP_append.1 hc
   obtain ⟨u1, h1, v1⟩ := resT_sound (P := P) hT hr hx k1
   obtain ⟨u2, h2, v2⟩ := resT_sound (P := P) hT hr hy k2
   refine ⟨.tuple #[u1, u2], by simp [h1, h2], ⟨[u1, u2], rfl, rfl, fun i e hi => ?_⟩⟩
   match i, hi with
   | 0, hi => cases hi; exact ⟨_, rfl, v1⟩
   | 1, hi => cases hi; exact ⟨_, rfl, v2⟩
   | i + 2, hi => simp at hi
  ·cases h
 ·rename_i r1 r2 r3
  split at h
  ·rename_i c1 x c2 y c3 z hx hy hz
   cases h
   obtain ⟨k1, k2⟩ := AllP_append.1 hc
   obtain ⟨k2, k3⟩ := AllP_append.1 k2
   obtain ⟨u1, h1, v1⟩ := resT_sound (P := P) hT hr hx k1
   obtain ⟨u2, h2, v2⟩ := resT_sound (P := P) hT hr hy k2
   obtain ⟨u3, h3, v3⟩ := resT_sound (P := P) hT hr hz k3
   refine ⟨.tuple #[u1, u2, u3], by simp [h1, h2, h3], ⟨[u1, u2, u3], rfl, rfl, fun i e hi => ?_⟩⟩
   match i, hi with
   | 0, hi => cases hi; exact ⟨_, rfl, v1⟩
   | 1, hi => cases hi; exact ⟨_, rfl, v2⟩
   | 2, hi => cases hi; exact ⟨_, rfl, v3⟩
   | i + 3, hi => simp at hi
  ·cases h
 ·rename_i r1 r2 r3 r4
  split at h
  ·rename_i c1 x c2 y c3 z c4 q hx hy hz hq
   cases h
   obtain ⟨k1, k2⟩ := AllP_append.1 hc
   obtain ⟨k2, k3⟩ := AllP_append.1 k2
   obtain ⟨k3, k4⟩ := AllP_append.1 k3
   obtain ⟨u1, h1, v1⟩ := resT_sound (P := P) hT hr hx k1
   obtain ⟨u2, h2, v2⟩ := resT_sound (P := P) hT hr hy k2
   obtain ⟨u3, h3, v3⟩ := resT_sound (P := P) hT hr hz k3
   obtain ⟨u4, h4, v4⟩ := resT_sound (P := P) hT hr hq k4
   refine ⟨.tuple #[u1, u2, u3, u4], by simp [h1, h2, h3, h4], ⟨[u1, u2, u3, u4], rfl, rfl, fun i e hi => ?_⟩⟩
   match i, hi with
   | 0, hi => cases hi; exact ⟨_, rfl, v1⟩
   | 1, hi => cases hi; exact ⟨_, rfl, v2⟩
   | 2, hi => cases hi; exact ⟨_, rfl, v3⟩
   | 3, hi => cases hi; exact ⟨_, rfl, v4⟩
   | i + 4, hi => simp at hi
  ·cases h
 ·cases h
end
def numS : Nat → List AV → List (Nat × AV)
 | _, [] => []
 | k, v :: r => (k, v) :: numS (k + 1) r
theorem look_numS (d : Nat) : ∀ (vs : List AV) (k : Nat) (v : AV), look d (numS k vs) = some v → k ≤ d ∧ vs[d - k]? = some v
 | [], _, _, h => by cases h
 | x :: r, k, v, h => by
  unfold numS look at h
  by_cases hk : k = d
  ·subst hk
   rw [beq_self] at h
   cases h
   exact ⟨Nat.le_refl _, by simp⟩
  ·rw [beq_ne hk] at h
   obtain ⟨h1, h2⟩ := look_numS d r (k + 1) v h
   refine ⟨by omega, ?_⟩
   have : d - k = (d - (k + 1)) + 1 := by omega
   rw [this]
   simpa using h2
inductive kRet (T : Nat → Option TI) (rs : List ResultVar) (Φ : AV → Heap → Prop) : Exit → St → Prop where
 | normal (s : St) (hs : List Nat) (cs : List Prop) (v : AV) (H : Heap) (h : resCut T s rs hs = some (cs, v, H)) (hc : AllP cs) (k : Φ v H) : kRet T rs Φ .normal s
 | ret (s : St) (hs : List Nat) (cs : List Prop) (v : AV) (H : Heap) (h : resCut T s rs hs = some (cs, v, H)) (hc : AllP cs) (k : Φ v H) : kRet T rs Φ .ret s
theorem acall_intro {P : Program} {T : Nat → Option TI} {f : FuncId} {fn : Func} {c : Code} {args : List AV} {Hin : Heap} {rs : List ResultVar} {Φ : AV → Heap → Prop} (hT : ∀ t i, T t = some i → TF P t i) (hf : P.funcs[f]? = some fn) (hb : fn.body = some c) (hnm : (fn.name == "runtime.NumGoroutine") = false) (hrs : fn.results = rs.toArray)
  (hn : Nat.ble args.length fn.ntmps = true) (h : AWp P c (kRet T rs Φ) ⟨fn.ntmps, numS 0 args, Hin⟩) : ACall P f args Hin Φ := by
 refine ⟨⟨fn, hf, hnm, by rw [hb]; rfl⟩, fun M us hH hM ha => ?_⟩
 have hle := Nat.le_of_ble_eq_true hn
 refine calls_of_wp hf hb ?_
 have hrel : Rel M ⟨fn.ntmps, numS 0 args, Hin⟩ { tmps := us.toArray ++ Array.replicate (fn.ntmps - us.toArray.size) undef, defers := [] } := by
  refine ⟨hH, hM, rfl, by simp [ha.1]; omega, fun d v hd => ?_⟩
  obtain ⟨_, h2⟩ := look_numS d args 0 v hd
  obtain ⟨u, hu, hv⟩ := ha.2 d v h2
  refine ⟨u, ?_, hv⟩
  have hlt := (List.getElem?_eq_some_iff.1 hu).1
  rw [Array.getElem?_append_left (by simpa using hlt)]
  simpa using hu
 refine wp_mono (h.run M M _ (Ext.refl _ _) hrel) fun e a w hq => ?_
 obtain ⟨s, M', h1, h2, h3, h4⟩ := hq
 subst h3
 rcases h1 with ⟨_, hs, cs, v, H, hv, hc, hΦ⟩ | ⟨_, hs, cs, v, H, hv, hc, hΦ⟩
 all_goals
  unfold resCut at hv
  split at hv
  ·rename_i cs1 v1 h5
   split at hv
   ·rename_i n0 d0 v2 H2 hcut
    cases hv
    obtain ⟨u, hu, hvu⟩ := resOf_sound (P := P) hT hrs h2 h5 hc
    have hrel1 : Rel M' ⟨1, [(0, v1)], s.hp⟩ ⟨#[u], []⟩ := by
     refine ⟨h2.hp, h2.ok, rfl, rfl, fun d x hd => ?_⟩
     match d, hd with
     | 0, hd => cases hd; exact ⟨u, rfl, hvu⟩
     | d + 1, hd => cases hd
    obtain ⟨M2, hr2, hw2, he2⟩ := awk_cut [0] hs _ M' _ hrel1
    rw [hcut] at hr2
    have hd0 : d0 = 0 := by
     simp only [cutS, keepN, St.mk.injEq] at hcut
     obtain ⟨_, h7, _⟩ := hcut
     simp only [hasN] at h7
     cases h7
     rfl
    subst hd0
    obtain ⟨u', hu', hv'⟩ := hr2.tm 0 _ rfl
    cases hu'
    exact ⟨h2.defers, u, hu, v, u, M2, rfl, by rw [hr2.hp]; exact hΦ, hv', hr2.ok, hw2, h4.trans he2⟩
   ·cases hv
  ·cases hv
def cellAt (s : St) (d k : Nat) : Option V1 := ((look d s.tm).bind AV.cells).bind (·[k]?)
theorem cellAt_sound {M : Mem} {s : St} {a : Act} {d k : Nat} {v : V1} (hr : Rel M s a) (h : cellAt s d k = some v) : ∃ u, VR M v u := by
 unfold cellAt at h
 simp only [Option.bind_eq_some_iff] at h
 obtain ⟨vs, ⟨x, hx, hc⟩, hv⟩ := h
 obtain ⟨u, _, hu⟩ := hr.tm d x hx
 obtain ⟨w, _, hw⟩ := (CellsR_cells hu hc).2 k v hv
 exact ⟨w, hw⟩
theorem awp_len {P : Program} {c : Code} {K : Post} {s : St} (d k : Nat) (x : C0) (h : cellAt s d k = some (.ro x)) (hk : x.len ≤ maxLen → AWp P c K s) : AWp P c K s := ⟨fun M0 M a he hr => by
 obtain ⟨u, hu⟩ := cellAt_sound hr h
 obtain ⟨A, cap, _, h1, h2, _⟩ := (show M.roSl _ _ _ _ from hu)
 exact (hk (Nat.le_trans h1 h2)).run M0 M a he hr⟩
def rawL (ev : Operand → Option AV) : List Operand → Option (List AV)
 | [] => some []
 | x :: r => (match ev x, rawL ev r with | some v, some vs => some (v :: vs) | _, _ => none)
structure Pre where
 g : Bool
 cs : List Prop
 f : FuncId
 args : List AV
 hin : Heap
def preCall (ρ : List (Nat × Nat)) (lent : Bool) (l : List Oper) (k : Nat) (s : St) : Option Pre :=
 match l.drop k with
 | o :: _ =>
  (match guardOf l.toArray s o.guard, o.op with
  | some g, .call c =>
   (match c.callee with
   | .value x =>
    (match s.ev g (tmpsOf (x :: c.args.toList)) x, rawL (s.ev g (tmpsOf (x :: c.args.toList))) c.args.toList, inH s.hp (inV ρ s.hp lent) ρ with
    | some (.one (.fn f caps)), some avs, some h => some ⟨g, s.owed g (tmpsOf (x :: c.args.toList)), f, (avs ++ caps.map AV.one).map (liftA (inV ρ s.hp lent)), h⟩
    | _, _, _ => none)
   | _ => none)
  | _, _ => none)
 | [] => none
def outS (lent : Bool) (ρ new : List (Nat × Nat)) (l : List Oper) (k : Nat) (v : AV) (Hr : Heap) (s : St) : Option St :=
 match l.drop k with
 | o :: _ =>
  (match outH Hr lent (outV (ρ ++ new) lent) (ρ ++ new) (mapV (clrO (newN new)) s.hp) with
  | some H2 =>
   (match putD o.dst (liftA (outV (ρ ++ new) lent) v) s.n (mapV (clrA (newN new)) s.tm) with
   | some tm => some ⟨s.n, tm, H2⟩
   | none => none)
  | none => none)
 | [] => none
def missS (l : List Oper) (k : Nat) (s : St) : Option St :=
 match l.drop k with
 | o :: _ => (match putD o.dst (.whn false (.one .any)) s.n s.tm with | some tm => some ⟨s.n, tm, s.hp⟩ | none => none)
 | [] => none
section
variable {P : Program} {K : Post} {s : St}
variable {M : Mem} {k : Nat} {l : List Oper}
theorem rawL_sound {ev : Operand → Option AV} {ρ : Operand → Value} (hev : ∀ x v, ev x = some v → AVR M v (ρ x)) : ∀ {xs : List Operand} {vs : List AV}, rawL ev xs = some vs → ArgsR M vs (xs.map ρ)
 | [], vs, h => by
  simp only [rawL, Option.some.injEq] at h
  subst h
  exact ⟨rfl, fun i v hi => by simp at hi⟩
 | x :: r, vs, h => by
  unfold rawL at h
  split at h
  ·rename_i v vs' hv hr
   cases h
   obtain ⟨h1, h2⟩ := rawL_sound hev hr
   refine ⟨by simp [h1], fun i v' hi => ?_⟩
   match i, hi with
   | 0, hi => cases hi; exact ⟨_, rfl, hev x v hv⟩
   | i + 1, hi => exact h2 i v' (by simpa using hi)
  ·cases h
theorem ArgsR.app {vs vs' : List AV} {us us' : List Value} (h : ArgsR M vs us) (h' : ArgsR M vs' us') : ArgsR M (vs ++ vs') (us ++ us') := by
 refine ⟨by simp [h.1, h'.1], fun i v hi => ?_⟩
 by_cases hlt : i < vs.length
 ·rw [List.getElem?_append_left hlt] at hi
  rw [List.getElem?_append_left (by rw [h.1]; exact hlt)]
  exact h.2 i v hi
 ·rw [List.getElem?_append_right (by omega)] at hi
  rw [List.getElem?_append_right (by rw [h.1]; omega), h.1]
  exact h'.2 _ v hi
theorem ArgsR.lift {M' : Mem} {f : V1 → V1} {vs : List AV} {us : List Value} (ht : Turns f M M') (h : ArgsR M vs us) : ArgsR M' (vs.map (liftA f)) us := by
 refine ⟨by simp [h.1], fun i v hi => ?_⟩
 simp only [List.getElem?_map, Option.map_eq_some_iff] at hi
 obtain ⟨v0, h0, rfl⟩ := hi
 obtain ⟨u, hu, hv⟩ := h.2 i v0 h0
 exact ⟨u, hu, AVR_lift ht hv⟩
theorem VM_VR {v : V1} {u : Value} (h : VM M v u) : VR M v u := by
 cases v <;> first | exact h | exact h.elim
theorem run_call {ρ : Operand → Value} {o : Oper} {c : Call} {x : Operand} {f : FuncId} {cs : List Value} {fn : Func} (ho : o.op = .call c) (hc : c.callee = .value x) (hx : ρ x = .func (.func f) #[] cs.toArray) (hfn : P.funcs[f]? = some fn) (hnm : (fn.name == "runtime.NumGoroutine") = false) (hb : fn.body.isNone = false) (w : World) :
  (execOp ρ o).run P w = .ok (.enter f (c.args.map ρ ++ cs.toArray)) w := by
 have hnm' : ¬ fn.name = "runtime.NumGoroutine" := by
  intro h
  rw [h] at hnm
  exact absurd hnm (by decide)
 simp only [execOp, ho, resolve, hc, hx, Deferred.ofValue, Sem.run_bind, Sem.run_pure, Result.andThen_ok, invoke, callFunc, run_program, hfn, hb]
 rw [if_neg (by simpa using hnm')]
 simp
def OpOk (P : Program) (l : List Oper) (i : Nat) (Q : Exit → Act → World → Prop) (Kx : Act → World → Prop) (a : Act) (w : World) : Prop :=
 match l.drop i with
 | o :: _ => if Region.wanted o (yielded l.toArray a.tmps) then o.wp P a w Kx Q ∨ (o.asks P a w ∧ LetsOut Q) else Kx (a.put o.dst undef) w
 | [] => False
theorem call_op (ρ new : List (Nat × Nat)) (lent : Bool) (p : Pre) (args : List AV) {Φ : AV → Heap → Prop} {sm : St} (hp : preCall ρ lent l k s = some p) (hm : missS l k s = some sm)
  (hR : (okR (ρ ++ new) && (okR ρ && (allSmall new ρ && allBig new))) = true) (hc : p.g = true → AllP p.cs) (hargs : p.args = args) (hA : p.g = true → ACall P p.f args p.hin Φ)
  {a : Act} {Q : Exit → Act → World → Prop} {Kx : Act → World → Prop} (hr : Rel M s a)
  (hk : p.g = true → ∀ v Hr, Φ v Hr → ∃ s', outS lent ρ new l k v Hr s = some s' ∧ ∀ M' a', Ext big M M' → Rel M' s' a' → Kx a' M'.w) (h0 : p.g = false → ∀ a', Rel M sm a' → Kx a' M.w) : OpOk P l k Q Kx a M.w := by
 simp only [Bool.and_eq_true] at hR
 obtain ⟨hR1, hR2, hR3, hR4⟩ := hR
 unfold preCall at hp
 split at hp
 ·rename_i o r hl
  split at hp
  ·rename_i g c hgd hop
   split at hp
   ·rename_i x hcallee
    split at hp
    ·rename_i f caps avs h hx hraw hin
     simp only [Option.some.injEq] at hp
     subst hp
     simp only at hc hargs hA hk h0
     have hw := guard_sound hr hgd
     unfold OpOk
     rw [hl]
     simp only
     cases hg : g
     ·rw [if_neg (by rw [hw, hg]; decide)]
      unfold missS at hm
      rw [hl] at hm
      simp only at hm
      split at hm
      ·rename_i tm htm
       simp only [Option.some.injEq] at hm
       subst hm
       exact h0 hg _ (hr.put htm ⟨fun h => (by cases h), fun _ => rfl⟩)
      ·cases hm
     ·rw [if_pos (by rw [hw, hg])]
      refine .inl ?_
      have hcs := hc hg
      have hev := ev_sound (g := g) (ts := tmpsOf (x :: c.args.toList)) hg hr hcs
      have hargsR := rawL_sound (ρ := a.eval) hev hraw
      have hfv := hev x _ hx
      obtain ⟨us, hfu, hlen, hcap⟩ := hfv
      obtain ⟨⟨fn, hfn, hnm, hb⟩, hrun⟩ := hA hg
      have hexec := run_call (P := P) (ρ := a.eval) hop hcallee hfu hfn hnm hb M.w
      unfold Oper.wp
      rw [hexec]
      show Calls P f (c.args.map a.eval ++ us.toArray) M.w _
      have harr : c.args.map a.eval ++ us.toArray = (c.args.toList.map a.eval ++ us).toArray := by simp
      rw [harr]
      rw [← hr.hp] at hin
      have hcapR : ArgsR M (caps.map AV.one) us := by
       refine ⟨by simp [hlen], fun i v hi => ?_⟩
       simp only [List.getElem?_map, Option.map_eq_some_iff] at hi
       obtain ⟨c0, hc0, rfl⟩ := hi
       obtain ⟨u, hu, hv⟩ := hcap i c0 hc0
       exact ⟨u, hu, VM_VR hv⟩
      have hall := (hargsR.app hcapR).lift (callMem_turns (lent := lent) hr.ok hin hR2)
      rw [hr.hp, hargs] at hall
      refine (hrun (callMem M ρ lent h) _ rfl (callMem_ok hr.ok hin hR2) hall).mono fun e w' hq => ?_
      obtain ⟨v, u, M1, rfl, hΦ, hvu, hok1, hw1, hext1⟩ := hq
      obtain ⟨s', hs', hgo⟩ := hk hg v M1.H hΦ
      unfold outS at hs'
      rw [hl] at hs'
      simp only at hs'
      split at hs'
      ·rename_i H2 hH2
       split at hs'
       ·rename_i tm htm
        simp only [Option.some.injEq] at hs'
        subst hs'
        rw [← hr.hp] at hH2
        obtain ⟨hokM, hextM, hturn⟩ := outMem_all hr.ok hin hR1 hR2 hR3 hR4 hok1 hext1 hH2
        have hext2 : Ext big M (outMem M M1 (ρ ++ new) H2) := hextM.mono fun y hy => newN_big hR4 hy
        have hst := hr.step (hp := H2) rfl hokM hextM
        have hput := hst.put htm (AVR_lift hturn hvu)
        have := hgo (outMem M M1 (ρ ++ new) H2) _ hext2 hput
        subst hw1
        exact this
       ·cases hs'
      ·cases hs'
    ·cases hp
   ·cases hp
  ·cases hp
 ·cases hp
theorem aops_of_op (h : ∀ M0 M a, Ext big M0 M → Rel M s a → OpOk P l k (Qc K M0) (wpList P l.toArray (Qc K M0) (l.drop (k + 1))) a M.w) : AOps P l k K s := ⟨fun M0 M a he hr => by
 have h1 := h M0 M a he hr
 unfold OpOk at h1
 split at h1
 ·rename_i o r hl
  have hd : l.drop (k + 1) = r := by
   have h1 : (l.drop k).drop 1 = r := by rw [hl]; rfl
   rwa [List.drop_drop] at h1
  rw [hd] at h1
  rw [hl]
  exact h1
 ·exact h1.elim⟩
theorem aops_call (ρ new : List (Nat × Nat)) (lent : Bool) (p : Pre) (args : List AV) {Φ : AV → Heap → Prop} {sm : St} (hp : preCall ρ lent l k s = some p) (hm : missS l k s = some sm)
  (hR : (okR (ρ ++ new) && (okR ρ && (allSmall new ρ && allBig new))) = true) (hc : p.g = true → AllP p.cs) (hargs : p.args = args) (hA : p.g = true → ACall P p.f args p.hin Φ)
  (hk : p.g = true → ∀ v Hr, Φ v Hr → ∃ s', outS lent ρ new l k v Hr s = some s' ∧ AOps P l (k + 1) K s') (h0 : p.g = false → AOps P l (k + 1) K sm) : AOps P l k K s :=
 aops_of_op fun M0 M _a he hr => call_op ρ new lent p args hp hm hR hc hargs hA hr
  (fun hg v Hr hΦ => (hk hg v Hr hΦ).imp fun _s' h => ⟨h.1, fun M' a' he' hr' => h.2.run M0 M' a' (he.trans he') hr'⟩)
  (fun hg a' hr' => (h0 hg).run M0 M a' he hr')
theorem newN_nil : newN [] = noX := by funext y; rfl
theorem mapV_id {α : Type} {f : α → α} (h : ∀ x, f x = x) : ∀ l : List (Nat × α), mapV f l = l
 | [] => rfl
 | (k, v) :: r => by rw [mapV, h, mapV_id h r]
def pureS (lent : Bool) (l : List Oper) (k : Nat) (g : Bool) (v : AV) (s : St) : Option St :=
 match l.drop k with
 | o :: _ =>
  (match o.guard with
  | none => (match putD o.dst (liftA (outV [] lent) v) s.n s.tm with | some tm => some ⟨s.n, tm, s.hp⟩ | none => none)
  | some _ => (match putD o.dst (.whn g (liftA (outV [] lent) v)) s.n s.tm with | some tm => some ⟨s.n, tm, s.hp⟩ | none => none))
 | [] => none
theorem putD_some {dst : Option Nat} {v : AV} {n : Nat} {tm tm' : List (Nat × AV)} (h : putD dst v n tm = some tm') : ∃ d, dst = some d ∧ Nat.ble (d + 1) n = true ∧ tm' = ins d v tm := by
 unfold putD at h
 split at h
 ·rename_i d
  cases hb : Nat.ble (d + 1) n
  ·rw [hb] at h; cases h
  ·rw [hb] at h; cases h; exact ⟨d, rfl, hb, rfl⟩
 ·cases h
theorem awk_whn {n d : Nat} {g : Bool} {v : AV} {tm : List (Nat × AV)} {hp : Heap} : (g = true → AWk ⟨n, ins d v tm, hp⟩ ⟨n, ins d (.whn g v) tm, hp⟩) ∧ (g = false → AWk ⟨n, ins d (.whn false (.one .any)) tm, hp⟩ ⟨n, ins d (.whn g v) tm, hp⟩) := by
 constructor
 ·intro hg M a hr
  refine ⟨M, ⟨hr.hp, hr.ok, hr.defers, hr.size, fun e x he => ?_⟩, rfl, Ext.refl _ _⟩
  have he' : look e (ins d (.whn g v) tm) = some x := he
  rw [look_ins] at he'
  by_cases hed : e = d
  ·rw [if_pos hed] at he'
   cases he'
   obtain ⟨u, hu, hv⟩ := hr.tm e v (by show look e (ins d v tm) = _; rw [look_ins, if_pos hed])
   exact ⟨u, hu, fun _ => hv, fun h => by rw [hg] at h; cases h⟩
  ·rw [if_neg hed] at he'
   exact hr.tm e x (by show look e (ins d v tm) = _; rw [look_ins, if_neg hed]; exact he')
 ·intro hg M a hr
  refine ⟨M, ⟨hr.hp, hr.ok, hr.defers, hr.size, fun e x he => ?_⟩, rfl, Ext.refl _ _⟩
  have he' : look e (ins d (.whn g v) tm) = some x := he
  rw [look_ins] at he'
  by_cases hed : e = d
  ·rw [if_pos hed] at he'
   cases he'
   obtain ⟨u, hu, hv⟩ := hr.tm e (.whn false (.one .any)) (by show look e (ins d _ tm) = _; rw [look_ins, if_pos hed])
   exact ⟨u, hu, fun h => (by rw [hg] at h; cases h), fun _ => hv.2 rfl⟩
  ·rw [if_neg hed] at he'
   exact hr.tm e x (by show look e (ins d _ tm) = _; rw [look_ins, if_neg hed]; exact he')
theorem pure_op (lent : Bool) (p : Pre) (args : List AV) (res : AV) (s' : St) (hp : preCall [] lent l k s = some p) (hs : pureS lent l k p.g res s = some s') (hc : p.g = true → AllP p.cs) (hargs : p.g = true → p.args = args) (hA : p.g = true → ACall P p.f args [] (fun v H => v = res ∧ H = []))
  {a : Act} {Q : Exit → Act → World → Prop} {Kx : Act → World → Prop} (hr : Rel M s a) (hk : ∀ M' a', Ext big M M' → Rel M' s' a' → Kx a' M'.w) : OpOk P l k Q Kx a M.w := by
 have hdrop : ∃ o r, l.drop k = o :: r := by
  unfold preCall at hp
  split at hp
  ·rename_i o r hl; exact ⟨o, r, hl⟩
  ·cases hp
 obtain ⟨o, r, hl⟩ := hdrop
 have hin : p.hin = [] := by
  unfold preCall at hp
  rw [hl] at hp
  simp only at hp
  split at hp
  ·split at hp
   ·split at hp
    ·rename_i h1 h2 h3
     simp only [inH, Option.some.injEq] at h3
     cases hp
     exact h3.symm
    ·cases hp
   ·cases hp
  ·cases hp
 have hgn : o.guard = none → p.g = true := by
  intro hgd
  unfold preCall at hp
  rw [hl] at hp
  simp only [hgd, guardOf] at hp
  split at hp
  ·rename_i g c e1 _
   cases e1
   split at hp
   ·split at hp
    ·cases hp; rfl
    ·cases hp
   ·cases hp
  ·cases hp
 have hm0 : ∀ v tm, putD o.dst v s.n s.tm = some tm → missS l k s = some ⟨s.n, ins ((o.dst).getD 0) (.whn false (.one .any)) s.tm, s.hp⟩ := by
  intro v tm h
  obtain ⟨d, hd, hb, _⟩ := putD_some h
  unfold missS
  rw [hl]
  simp [putD, hd, hb]
 have ho : ∀ v tm, putD o.dst v s.n s.tm = some tm → outS lent [] [] l k res [] s = some ⟨s.n, ins ((o.dst).getD 0) (liftA (outV [] lent) res) s.tm, s.hp⟩ := by
  intro v tm h
  obtain ⟨d, hd, hb, _⟩ := putD_some h
  unfold outS
  rw [hl]
  simp only [List.nil_append, outH, newN_nil, mapV_id clrO_no, mapV_id clrA_no]
  simp [putD, hd, hb]
 have hweak : ∀ {s1 s2 : St}, AWk s1 s2 → (∀ M' a', Ext big M M' → Rel M' s2 a' → Kx a' M'.w) → ∀ M' a', Ext big M M' → Rel M' s1 a' → Kx a' M'.w := by
  intro s1 s2 hw hk M' a' he' hr'
  obtain ⟨M2, h1, h2, h3⟩ := hw M' a' hr'
  rw [← h2]
  exact hk M2 a' (he'.trans h3) h1
 unfold pureS at hs
 rw [hl] at hs
 simp only at hs
 split at hs
 ·rename_i hgd
  split at hs
  ·rename_i tm htm
   cases hs
   obtain ⟨d, hd, hb, he⟩ := putD_some htm
   refine call_op (Φ := fun v H => v = res ∧ H = []) [] [] lent p args hp (hm0 _ _ htm) rfl hc (hargs (hgn hgd)) (fun hg => by rw [hin]; exact hA hg) hr (fun hg v Hr ⟨e1, e2⟩ => ?_) (fun hg => by rw [hgn hgd] at hg; cases hg)
   subst e1 e2
   refine ⟨_, ho _ _ htm, ?_⟩
   rw [hd]
   rw [he] at hk
   exact hk
  ·cases hs
 ·split at hs
  ·rename_i tm htm
   cases hs
   obtain ⟨d, hd, hb, he⟩ := putD_some htm
   rw [he] at hk
   by_cases hgt : p.g = true
   ·refine call_op (Φ := fun v H => v = res ∧ H = []) [] [] lent p args hp (hm0 _ _ htm) rfl hc (hargs hgt) (fun hg => by rw [hin]; exact hA hg) hr (fun hg v Hr ⟨e1, e2⟩ => ?_) (fun hg => by rw [hgt] at hg; cases hg)
    subst e1 e2
    refine ⟨_, ho _ _ htm, ?_⟩
    rw [hd]
    exact hweak (awk_whn.1 hg) hk
   ·refine call_op (Φ := fun v H => v = res ∧ H = []) [] [] lent p p.args hp (hm0 _ _ htm) rfl hc rfl (fun hg => absurd hg hgt) hr (fun hg => absurd hg hgt) (fun hg a' hr' => ?_)
    have := hweak (awk_whn.2 hg) hk M a' (Ext.refl _ _)
    rw [hd] at hr'
    exact this hr'
  ·cases hs
theorem aops_pure (lent : Bool) (p : Pre) (args : List AV) (res : AV) (s' : St) (hp : preCall [] lent l k s = some p) (hs : pureS lent l k p.g res s = some s') (hc : p.g = true → AllP p.cs) (hargs : p.args = args) (hA : p.g = true → ACall P p.f args [] (fun v H => v = res ∧ H = []))
  (hk : AOps P l (k + 1) K s') : AOps P l k K s :=
 aops_of_op fun M0 _M _a he hr => pure_op lent p args res s' hp hs hc (fun _ => hargs) hA hr fun M' a' he' hr' => hk.run M0 M' a' (he.trans he') hr'
end
end Go.Ab
namespace Go.Ab
def Mem.drawn (M : Mem) : Mem := ⟨M.μ, M.H, { M.w with drawn := M.w.drawn + 1 }, M.free⟩
theorem drawn_ext (M : Mem) : Ext noX M M.drawn :=
 ⟨⟨rfl, rfl, rfl, Nat.le_succ _, Nat.le_refl _, fun _ _ h => ⟨rfl, h⟩, fun _ h => h, fun _ h => .inl h⟩, fun _x o _ h => ⟨o, h, rfl, Nat.le_refl _, rfl, fun _ _ cur _e _ hc => ⟨cur, hc, rfl⟩⟩⟩
theorem drawn_rel {M : Mem} {s : St} {a : Act} (hr : Rel M s a) : Rel M.drawn s a := by
 have he := drawn_ext M
 have hok : MOk M.drawn := by
  refine ⟨hr.ok.named, fun b hb => hr.ok.fr b hb, hr.ok.inj, hr.ok.none_, fun x o b p hx hm => ?_⟩
  obtain ⟨cur, e, h1, h2, h3⟩ := hr.ok.obj x o b p hx hm
  exact ⟨cur, e, h1, h2, fun i hi j hj => (h3 i hi j hj).imp fun u h => ⟨h.1, h.2.1, VR_ext0 he h.2.2⟩⟩
 have := hr.step0 (M' := M.drawn) rfl hok he
 rw [show M.drawn.H = s.hp from hr.hp] at this
 exact this
section
variable {P : Program} {T : Nat → Option TI} {K : Post} {s s' : St}
variable {a : Act} {M : Mem} {o : Oper} {ops : Array Oper} {l : List Oper} {i id : Nat} {v : AV} {lent : Bool}
def stepRdG (T : Nat → Option TI) (ops : Array Oper) (s : St) (o : Oper) : Option (List Prop × St) :=
 match o.guard with
 | none => (match stepRd T s true o.op with | some (cs, v) => (match putD o.dst v s.n s.tm with | some tm => some (cs, ⟨s.n, tm, s.hp⟩) | none => none) | none => none)
 | some gd =>
  (match guardOf ops s (some gd) with
  | some g => (match stepRd T s g o.op with | some (cs, v) => (match putD o.dst (.whn g v) s.n s.tm with | some tm => some (whnAll g cs, ⟨s.n, tm, s.hp⟩) | none => none) | none => none)
  | none => none)
theorem stepRdG_sound {cs : List Prop} (hT : ∀ t i, T t = some i → TF P t i) (h : stepRdG T ops s o = some (cs, s')) (hc : AllP cs) (hr : Rel M s a) :
  (Region.wanted o (yielded ops a.tmps) = false ∧ Rel M s' (a.put o.dst undef)) ∨ (Region.wanted o (yielded ops a.tmps) = true ∧ ∃ u, (execOp a.eval o).run P M.w = .ok (.value u) M.w ∧ Rel M s' (a.put o.dst u)) := by
 unfold stepRdG at h
 split at h
 ·rename_i hg
  split at h
  ·rename_i cs1 v hrd
   split at h
   ·rename_i tm htm
    cases h
    obtain ⟨u, hu, hv⟩ := stepRd_sound (P := P) hT rfl hr hrd hc
    exact .inr ⟨by simp [Region.wanted, hg], u, hu, hr.put htm hv⟩
   ·cases h
  ·cases h
 ·rename_i gd hg
  split at h
  ·rename_i g hgo
   rw [← hg] at hgo
   have hw := guard_sound hr hgo
   split at h
   ·rename_i cs1 v hrd
    split at h
    ·rename_i tm htm
     cases h
     cases hgb : g
     ·subst hgb
      exact .inl ⟨hw, hr.put htm ⟨fun h => (by cases h), fun _ => rfl⟩⟩
     ·obtain ⟨u, hu, hv⟩ := stepRd_sound (P := P) hT hgb hr hrd (whnAll_true hgb hc)
      exact .inr ⟨by rw [hw, hgb], u, hu, hr.put htm ⟨fun _ => hv, fun h => by rw [hgb] at h; cases h⟩⟩
    ·cases h
   ·cases h
  ·cases h
def runRd (T : Nat → Option TI) (ops : Array Oper) : List Oper → St → Option (List Prop × St)
 | [], s => some ([], s)
 | o :: r, s =>
  (match stepRdG T ops s o with
  | some (cs, s') => (match runRd T ops r s' with | some (cs', s'') => some (cs ++ cs', s'') | none => none)
  | none => none)
theorem runRd_still {Lq : Act → Prop} (hT : ∀ t i, T t = some i → TF P t i) (l : List Oper) : ∀ (s : St) (cs : List Prop) (a : Act), runRd T ops l s = some (cs, s') → AllP cs → Rel M s a → (∀ a', Rel M s' a' → Lq a') → wpStill P ops M.w Lq l a := by
 induction l with
 | nil =>
  intro s cs a h _ hr hq
  cases h
  exact hq a hr
 | cons o r ih =>
  intro s cs a h hc hr hq
  unfold runRd at h
  split at h
  ·rename_i cs1 s1 h1
   split at h
   ·rename_i cs2 s2 h2
    cases h
    obtain ⟨c1, c2⟩ := AllP_append.1 hc
    unfold wpStill
    rcases stepRdG_sound (P := P) hT h1 c1 hr with ⟨hw, hr'⟩ | ⟨hw, u, hu, hr'⟩
    ·rw [if_neg (by rw [hw]; decide)]
     exact ih s1 cs2 _ h2 c2 hr' hq
    ·rw [if_pos hw]
     unfold Oper.still
     rw [hu, Oper.stillUpon_value]
     exact ih s1 cs2 _ h2 c2 hr' hq
   ·cases h
  ·cases h
def runCutRd (T : Nat → Option TI) (l : List Oper) (n : Nat) (ks hs : List Nat) (s : St) : Option (List Prop × St) :=
 match runRd T l.toArray (l.take n) s with
 | some (cs, s') => some (cs, cutS ks hs s')
 | none => none
theorem awp_tail (n : Nat) (ks hs : List Nat) (cs : List Prop) (s' : St) (hm : P.follows .mixedOrders = true) (hB : Region.lexTailB .any l.toArray n = true) (hT : ∀ t i, T t = some i → TF P t i) (h : runCutRd T l n ks hs s = some (cs, s')) (hc : AllP cs) (hk : AOps P l n K s') :
  AWp P (.region id l.toArray true) K s := ⟨fun M0 M a he hr => by
 unfold runCutRd at h
 split at h
 ·rename_i cs1 s1 h1
  cases h
  refine wp_region_still_tail n hm hB ?_
  refine runRd_still (M := M.drawn) hT (l.take n) s cs a h1 hc (drawn_rel hr) fun a' hr' => ?_
  exact (aops_weak (awk_cut ks hs s1) hk).run M0 M.drawn a' (he.trans ((drawn_ext M).mono fun x hx => by cases hx)) hr'
 ·cases h⟩
theorem awp_still (ks hs : List Nat) (cs : List Prop) (s' : St) (hm : P.follows .mixedOrders = true) (hB : Region.lexB .any l.toArray = true) (hT : ∀ t i, T t = some i → TF P t i) (h : runCutRd T l l.length ks hs s = some (cs, s')) (hc : AllP cs) (hk : K .normal s') :
  AWp P (.region id l.toArray true) K s := ⟨fun M0 M a he hr => by
 unfold runCutRd at h
 rw [List.take_length] at h
 split at h
 ·rename_i cs1 s1 h1
  cases h
  refine wp_region_still_lit hm hB ?_
  refine runRd_still (M := M.drawn) hT l s cs a h1 hc (drawn_rel hr) fun a' hr' => ?_
  obtain ⟨M', h3, h4, h5⟩ := awk_cut ks hs s1 M.drawn a' hr'
  refine ⟨_, M', hk, h3, h4, (he.trans ((drawn_ext M).mono fun x hx => by cases hx)).trans h5⟩
 ·cases h⟩
def detA : AV → Bool
 | .one (.bool _) => true
 | .one (.int _ _) => true
 | .one (.str _) => true
 | _ => false
theorem detA_uniq {u u' : Value} (h : detA v = true) (h1 : AVR M v u) (h2 : AVR M v u') : u = u' := by
 unfold detA at h
 split at h
 ·exact (show u = _ from h1).trans (show u' = _ from h2).symm
 ·exact (show u = _ from h1).trans (show u' = _ from h2).symm
 ·exact (show u = _ from h1).trans (show u' = _ from h2).symm
 ·cases h
def calmOp : Op → Bool
 | .move _ => true
 | .assign _ => true
 | .fieldAddr _ _ _ => true
 | .indexAddr _ _ _ => true
 | .extract _ _ => true
 | _ => false
def calmDet : Op → Bool
 | .binOp _ _ _ _ _ => true
 | .unOp _ _ _ => true
 | .convert _ _ _ => true
 | .call c => (match c.callee with | .builtin _ => true | _ => false)
 | _ => false
def isCalm (op : Op) (v : AV) : Bool := calmOp op || (calmDet op && detA v)
theorem uniq_all {ρ : Operand → Value} (hd : detA v = true) (h : ∀ w, ∃ u, (execOp ρ o).run P w = .ok (.value u) w ∧ AVR M v u) (w0 : World) : ∃ u, (∀ w, (execOp ρ o).run P w = .ok (.value u) w) ∧ AVR M v u := by
 obtain ⟨u, _, hv⟩ := h w0
 refine ⟨u, fun w => ?_, hv⟩
 obtain ⟨u', hu', hv'⟩ := h w
 rw [detA_uniq hd hv hv']
 exact hu'
theorem calm_sound {g : Bool} {cs : List Prop} (hT : ∀ t i, T t = some i → TF P t i) (hg : g = true) (hr : Rel M s a) (h : stepRd T s g o.op = some (cs, v)) (hc : AllP cs) (hcalm : isCalm o.op v = true) :
  ∃ u, (∀ w, (execOp a.eval o).run P w = .ok (.value u) w) ∧ AVR M v u := by
 have hrp := hr.hp
 simp only [isCalm, Bool.or_eq_true, Bool.and_eq_true] at hcalm
 cases ho : o.op <;> rw [ho] at h hcalm <;> simp only [calmOp, calmDet, Bool.false_eq_true, false_and, or_self, false_or, or_false, true_and] at hcalm <;> simp only [stepRd, stepPure] at h
 case move x =>
  split at h
  ·rename_i cs1 u1 hl
   simp only [Option.some.injEq, Prod.mk.injEq] at h
   obtain ⟨rfl, rfl⟩ := h
   obtain ⟨h1, h2⟩ := AllP_append.1 hc
   simp only [Option.map_eq_some_iff, Prod.mk.injEq] at hl
   obtain ⟨a1, ha1, rfl, rfl⟩ := hl
   exact ⟨a.eval x, fun w => by simp [execOp, ho], ev_sound hg hr h1 _ _ ha1⟩
  ·cases h
 case assign x =>
  split at h
  ·rename_i cs1 u1 hl
   simp only [Option.some.injEq, Prod.mk.injEq] at h
   obtain ⟨rfl, rfl⟩ := h
   obtain ⟨h1, h2⟩ := AllP_append.1 hc
   simp only [Option.map_eq_some_iff, Prod.mk.injEq] at hl
   obtain ⟨a1, ha1, rfl, rfl⟩ := hl
   exact ⟨a.eval x, fun w => by simp [execOp, ho], ev_sound hg hr h1 _ _ ha1⟩
  ·cases h
 case fieldAddr t x f =>
  split at h
  ·rename_i cs1 u1 hl
   simp only [Option.some.injEq, Prod.mk.injEq] at h
   obtain ⟨rfl, rfl⟩ := h
   obtain ⟨h1, h2⟩ := AllP_append.1 hc
   split at hl
   ·rename_i a1 ha1
    obtain ⟨u, hu, hv⟩ := stFieldAddr_sound (P := P) hT hl (ev_sound hg hr h1 _ _ ha1)
    exact ⟨u, fun w => by simp only [execOp, ho, Sem.run_bind, hu, Result.andThen_ok, Sem.run_pure], hv⟩
   ·cases hl
  ·cases h
 case indexAddr t x i =>
  split at h
  ·rename_i cs1 u1 hl
   simp only [Option.some.injEq, Prod.mk.injEq] at h
   obtain ⟨rfl, rfl⟩ := h
   obtain ⟨h1, h2⟩ := AllP_append.1 hc
   rw [← hrp] at hl
   split at hl
   ·rename_i a1 b1 ha1 hb1
    obtain ⟨u, hu, hv⟩ := stIndexAddr_sound (P := P) hT hl (ev_sound hg hr h1 _ _ ha1) (ev_sound hg hr h1 _ _ hb1) h2
    exact ⟨u, fun w => by simp only [execOp, ho, Sem.run_bind, hu, Result.andThen_ok, Sem.run_pure], hv⟩
   ·cases hl
  ·cases h
 case extract x i =>
  split at h
  ·rename_i cs1 u1 hl
   simp only [Option.some.injEq, Prod.mk.injEq] at h
   obtain ⟨rfl, rfl⟩ := h
   obtain ⟨h1, h2⟩ := AllP_append.1 hc
   split at hl
   ·rename_i a1 ha1
    obtain ⟨u, hu, hv⟩ := stExtract_all (P := P) hl (ev_sound hg hr h1 _ _ ha1)
    exact ⟨u, fun w => by simp only [execOp, ho, Sem.run_bind, hu, Result.andThen_ok, Sem.run_pure], hv⟩
   ·cases hl
  ·cases h
 case binOp op t x y yt =>
  split at h
  ·rename_i cs1 u1 hl
   simp only [Option.some.injEq, Prod.mk.injEq] at h
   obtain ⟨rfl, rfl⟩ := h
   obtain ⟨h1, h2⟩ := AllP_append.1 hc
   split at hl
   ·rename_i a1 b1 ha1 hb1
    refine uniq_all hcalm (fun w => ?_) M.w
    obtain ⟨u, hu, hv⟩ := stBin_sound (P := P) (x := x) (y := y) hT hl (ev_sound hg hr h1 _ _ ha1) (ev_sound hg hr h1 _ _ hb1) h2 w
    exact ⟨u, by simp only [execOp, ho]; rw [Sem.run_bind, hu]; rfl, hv⟩
   ·cases hl
  ·cases h
 case unOp op t x =>
  split at h
  ·rename_i cs1 u1 hl
   simp only [Option.some.injEq, Prod.mk.injEq] at h
   obtain ⟨rfl, rfl⟩ := h
   obtain ⟨h1, h2⟩ := AllP_append.1 hc
   split at hl
   ·rename_i a1 ha1
    refine uniq_all hcalm (fun w => ?_) M.w
    obtain ⟨u, hu, hv⟩ := stUn_sound (P := P) hl (ev_sound hg hr h1 _ _ ha1) h2 w
    exact ⟨u, by simp only [execOp, ho, Sem.run_bind, hu, Result.andThen_ok, Sem.run_pure], hv⟩
   ·cases hl
  ·cases h
 case convert src dst x =>
  split at h
  ·rename_i cs1 u1 hl
   simp only [Option.some.injEq, Prod.mk.injEq] at h
   obtain ⟨rfl, rfl⟩ := h
   obtain ⟨h1, h2⟩ := AllP_append.1 hc
   split at hl
   ·rename_i a1 ha1
    refine uniq_all hcalm (fun w => ?_) M.w
    obtain ⟨u, hu, hv⟩ := stConv_sound (P := P) hT hl (ev_sound hg hr h1 _ _ ha1) h2 w
    exact ⟨u, by simp only [execOp, ho, Sem.run_bind, hu, Result.andThen_ok, Sem.run_pure], hv⟩
   ·cases hl
  ·cases h
 case call c =>
  obtain ⟨callee, args, types⟩ := c
  split at h
  ·rename_i cs1 u1 hl
   simp only [Option.some.injEq, Prod.mk.injEq] at h
   obtain ⟨rfl, rfl⟩ := h
   obtain ⟨h1, h2⟩ := AllP_append.1 hc
   split at hl
   ·rename_i b hb
    simp only at hb
    subst hb
    refine uniq_all (by simpa using hcalm) (fun w => ?_) M.w
    obtain ⟨u, hu, hv⟩ := stBuiltin_sound (P := P) (ty := o.type) (consts := args.map fun | .const _ => true | _ => false) hT (ev_sound hg hr h1) hl w
    exact ⟨u, by simp only [execOp, ho, resolve, Sem.run_bind, Sem.run_pure, Result.andThen_ok, invoke]; exact hu, hv⟩
   ·cases hl
  ·cases h
def insC (i : Nat) (cs : List Prop) : List (Nat × List Prop) → List (Nat × List Prop)
 | [] => [(i, cs)]
 | (k, c) :: r => cond (Nat.ble i k) ((i, cs) :: (k, c) :: r) ((k, c) :: insC i cs r)
def AllC : List (Nat × List Prop) → Prop
 | [] => True
 | (_, cs) :: r => AllP cs ∧ AllC r
theorem AllC_ins {cs : List Prop} : ∀ {l : List (Nat × List Prop)}, AllC (insC i cs l) ↔ AllP cs ∧ AllC l
 | [] => Iff.rfl
 | (k, c) :: r => by
  unfold insC
  cases Nat.ble i k
  ·simp only [cond_false, AllC, AllC_ins (l := r)]
   constructor
   ·rintro ⟨h1, h2, h3⟩; exact ⟨h2, h1, h3⟩
   ·rintro ⟨h1, h2, h3⟩; exact ⟨h2, h1, h3⟩
  ·exact Iff.rfl
structure CallI where
 args : List AV
 res : AV
 hr : Heap
 new : List (Nat × Nat)
abbrev Tab := List (Nat × CallI)
variable {tab : Tab}
def stepCall (P : Program) (tab : Tab) (l : List Oper) (i : Nat) (s : St) (lent : Bool) : Option (List Prop × St) :=
 match preCall [] lent l i s, look i tab with
 | some p, some c =>
  (match c.new with
  | [] =>
   (match pureS lent l i p.g c.res s with
   | some s' => some ([p.g = true → (AllP p.cs ∧ p.args = c.args ∧ ACall P p.f c.args [] (fun v H => v = c.res ∧ H = []))], s')
   | none => none)
  | _ :: _ =>
   cond (p.g && (okR c.new && allBig c.new)) (match missS l i s, outS lent [] c.new l i c.res c.hr s with
   | some _, some s' => some ([AllP p.cs ∧ p.args = c.args ∧ ACall P p.f c.args [] (fun v H => v = c.res ∧ H = c.hr)], s')
   | _, _ => none) none)
 | _, _ => none
def firstU (T : Nat → Option TI) (ops : Array Oper) (listed : Array Bool) (s : St) : List Nat → Option (Nat × List Prop × St)
 | [] => none
 | i :: r =>
  (match ops[i]? with
  | some o =>
   (match guardOf ops s o.guard with
   | some g =>
    cond (calmOp o.op || calmDet o.op) (cond (Region.free .any ops listed i)
     (match stepRd T s g o.op, stepRdG T ops s o with
     | some (_, v), some (cs, s') => cond (isCalm o.op v) (some (i, cs, s')) (firstU T ops listed s r)
     | _, _ => firstU T ops listed s r) (firstU T ops listed s r)) (firstU T ops listed s r)
   | none => firstU T ops listed s r)
  | none => firstU T ops listed s r)
def stepAny (P : Program) (T : Nat → Option TI) (tab : Tab) (lent : Bool) (l : List Oper) (i : Nat) (s : St) : Option (List Prop × St) :=
 match l.drop i with
 | o :: _ => (match stepOp T l.toArray s o with | some r => some r | none => stepCall P tab l i s lent)
 | [] => none
abbrev Leaf := List (Nat × List Prop) × St
def branch (f : Nat → Option (List Leaf)) : List Nat → Option (List Leaf)
 | [] => some []
 | i :: r => (match f i, branch f r with | some x, some y => some (x ++ y) | _, _ => none)
def explore (P : Program) (T : Nat → Option TI) (tab : Tab) (lent : Bool) (l : List Oper) : Nat → Array Bool → List (Nat × List Prop) → St → Option (List Leaf)
 | 0, listed, cd, s => (match Region.ready .any l.toArray listed with | [] => some [(cd, s)] | _ :: _ => none)
 | n + 1, listed, cd, s =>
  (match Region.ready .any l.toArray listed with
  | [] => some [(cd, s)]
  | j :: r =>
   (match firstU T l.toArray listed s (j :: r) with
   | some (i, cs, s') => explore P T tab lent l n (listed.setIfInBounds i true) (insC i cs cd) s'
   | none => branch (fun i => (match stepAny P T tab lent l i s with
    | some (cs, s') => explore P T tab lent l n (listed.setIfInBounds i true) (insC i cs cd) s'
    | none => none)) (j :: r)))
def QN (Q : Exit → Act → World → Prop) : Exit → Act → World → Prop := fun e a w => e = .normal ∧ Q .normal a w
theorem drop_at {r : List Oper} (h : l.drop i = o :: r) : l.toArray[i]? = some o := by
 have : (l.drop i)[0]? = some o := by rw [h]; rfl
 simpa using this
theorem wpOp_of_ok {Q : Exit → Act → World → Prop} {Kx : Act → World → Prop} {w : World} (h : OpOk P l i Q Kx a w) : wpOp P l.toArray Q i Kx a w := by
 unfold OpOk at h
 split at h
 ·rename_i o r hl
  unfold wpOp
  rw [drop_at hl]
  exact h
 ·exact h.elim
theorem stepAny_sound {cs : List Prop} (hT : ∀ t i, T t = some i → TF P t i) (h : stepAny P T tab lent l i s = some (cs, s')) (hc : AllP cs) {Kx : Act → World → Prop} {Q : Exit → Act → World → Prop} (hr : Rel M s a)
  (hk : ∀ M' a', Ext big M M' → Rel M' s' a' → Kx a' M'.w) : wpOp P l.toArray Q i Kx a M.w := by
 unfold stepAny at h
 split at h
 ·rename_i o r hl
  split at h
  ·rename_i r0 h0
   cases h
   refine wpOp_of_ok ?_
   unfold OpOk
   rw [hl]
   simp only
   rcases stepOp_sound (P := P) hT h0 hc hr with ⟨hw, hr'⟩ | ⟨hw, n, M', u, hrun, hext, hr', hn⟩
   ·rw [if_neg (by rw [hw]; decide)]
    exact hk M _ (Ext.refl _ _) hr'
   ·rw [if_pos hw]
    refine .inl ?_
    unfold Oper.wp
    rw [hrun]
    rcases hn with rfl | ⟨rfl, rfl⟩
    ·exact hk M' _ hext hr'
    ·exact hk M' _ hext hr'
  ·unfold stepCall at h
   split at h
   ·rename_i p c hp htab
    split at h
    ·split at h
     ·rename_i s1 hs1
      cases h
      have hcond := hc.1
      exact wpOp_of_ok (pure_op lent p c.args c.res _ hp hs1 (fun hg => (hcond hg).1) (fun hg => (hcond hg).2.1) (fun hg => (hcond hg).2.2) hr hk)
     ·cases h
    ·cases hb : (p.g && (okR c.new && allBig c.new))
     ·rw [hb] at h; cases h
     ·rw [hb] at h
      simp only [cond_true] at h
      simp only [Bool.and_eq_true] at hb
      split at h
      ·rename_i sm s1 hm hs1
       cases h
       obtain ⟨h1, h2, h3⟩ := hc.1
       have hin : p.hin = [] := by
        unfold preCall at hp
        split at hp
        ·split at hp
         ·split at hp
          ·split at hp
           ·rename_i e1 e2 e3
            simp only [inH, Option.some.injEq] at e3
            cases hp
            exact e3.symm
           ·cases hp
          ·cases hp
         ·cases hp
        ·cases hp
       refine wpOp_of_ok (call_op (Φ := fun v H => v = c.res ∧ H = c.hr) [] c.new lent p c.args hp hm (by simp only [List.nil_append, hb.2.1, hb.2.2]; rfl) (fun _ => h1) h2 (fun _ => by rw [hin]; exact h3) hr (fun _ v Hr hvH => ?_) (fun hg => by rw [hb.1] at hg; cases hg))
       obtain ⟨rfl, rfl⟩ := hvH
       exact ⟨_, hs1, hk⟩
      ·cases h
   ·cases h
 ·cases h
theorem firstU_sound {listed : Array Bool} {cs : List Prop} : ∀ {r : List Nat}, firstU T ops listed s r = some (i, cs, s') → i ∈ r ∧ ∃ o, ops[i]? = some o ∧ Region.free .any ops listed i = true ∧
  ∃ g c v, guardOf ops s o.guard = some g ∧ stepRd T s g o.op = some (c, v) ∧ stepRdG T ops s o = some (cs, s') ∧ isCalm o.op v = true
 | [], h => by cases h
 | j :: r, h => by
  have rec_ : firstU T ops listed s r = some (i, cs, s') → i ∈ j :: r ∧ _ := fun h => ⟨List.mem_cons_of_mem _ (firstU_sound h).1, (firstU_sound h).2⟩
  unfold firstU at h
  split at h
  ·rename_i o ho
   split at h
   ·rename_i g hg
    cases hb1 : (calmOp o.op || calmDet o.op)
    ·rw [hb1] at h; exact rec_ h
    ·rw [hb1] at h
     simp only [cond_true] at h
     cases hb2 : Region.free .any ops listed j
     ·rw [hb2] at h; exact rec_ h
     ·rw [hb2] at h
      simp only [cond_true] at h
      split at h
      ·rename_i c v cs1 s1 h1 h2
       cases hb3 : isCalm o.op v
       ·rw [hb3] at h; exact rec_ h
       ·rw [hb3] at h
        simp only [cond_true, Option.some.injEq, Prod.mk.injEq] at h
        obtain ⟨rfl, rfl, rfl⟩ := h
        exact ⟨List.mem_cons_self, o, ho, hb2, g, c, v, hg, h1, h2, hb3⟩
      ·exact rec_ h
   ·exact rec_ h
  ·exact rec_ h
theorem first_yields {g : Bool} {c cs : List Prop} (hT : ∀ t i, T t = some i → TF P t i) (hgo : guardOf ops s o.guard = some g) (hrd : stepRd T s g o.op = some (c, v)) (hst : stepRdG T ops s o = some (cs, s')) (hcalm : isCalm o.op v = true) (hc : AllP cs) (hr : Rel M s a) :
  ∃ u, Yields P ops o u a ∧ Rel M s' (a.put o.dst u) := by
 have hw := guard_sound hr hgo
 unfold stepRdG at hst
 split at hst
 ·rename_i hg
  rw [hg] at hgo
  cases hgo
  rw [hrd] at hst
  simp only at hst
  split at hst
  ·rename_i tm htm
   cases hst
   obtain ⟨u, hu, hv⟩ := calm_sound (P := P) hT rfl hr hrd hc hcalm
   exact ⟨u, .inl ⟨hw, hu⟩, hr.put htm hv⟩
  ·cases hst
 ·rename_i gd hg
  rw [hg] at hgo
  rw [hgo] at hst
  simp only at hst
  rw [hrd] at hst
  simp only at hst
  split at hst
  ·rename_i tm htm
   cases hst
   cases hgb : g
   ·subst hgb
    exact ⟨undef, .inr ⟨hw, rfl⟩, hr.put htm ⟨fun h => (by cases h), fun _ => rfl⟩⟩
   ·obtain ⟨u, hu, hv⟩ := calm_sound (P := P) hT hgb hr hrd (whnAll_true hgb hc) hcalm
    exact ⟨u, .inl ⟨by rw [hw, hgb], hu⟩, hr.put htm ⟨fun _ => hv, fun h => by rw [hgb] at h; cases h⟩⟩
  ·cases hst
theorem branch_mem {f : Nat → Option (List Leaf)} : ∀ {r : List Nat} {ls : List Leaf}, branch f r = some ls → ∀ i ∈ r, ∃ x, f i = some x ∧ ∀ y ∈ x, y ∈ ls
 | [], _, _, i, hi => by cases hi
 | j :: r, ls, h, i, hi => by
  unfold branch at h
  split at h
  ·rename_i x y hx hy
   cases h
   rcases List.mem_cons.1 hi with rfl | hi
   ·exact ⟨x, hx, fun z hz => List.mem_append_left _ hz⟩
   ·obtain ⟨z, hz, hm⟩ := branch_mem hy i hi
    exact ⟨z, hz, fun q hq => List.mem_append_right _ (hm q hq)⟩
  ·cases h
theorem leaf_some : ∀ {n : Nat} {listed : Array Bool} {cd : List (Nat × List Prop)} {s : St} {ls : List Leaf}, explore P T tab lent l n listed cd s = some ls → ∃ y ∈ ls, AllC y.1 → AllC cd := by
 intro n
 induction n with
 | zero =>
  intro listed cd s ls h
  unfold explore at h
  split at h
  ·cases h; exact ⟨_, List.mem_cons_self, fun h => h⟩
  ·cases h
 | succ n ih =>
  intro listed cd s ls h
  unfold explore at h
  split at h
  ·cases h; exact ⟨_, List.mem_cons_self, fun h => h⟩
  ·rename_i j r hrd
   split at h
   ·obtain ⟨y, hy, hc⟩ := ih h
    exact ⟨y, hy, fun h => (AllC_ins.1 (hc h)).2⟩
   ·obtain ⟨x, hx, hm⟩ := branch_mem h j List.mem_cons_self
    split at hx
    ·obtain ⟨y, hy, hc⟩ := ih hx
     exact ⟨y, hm y hy, fun h => (AllC_ins.1 (hc h)).2⟩
    ·cases hx
theorem explore_sound {M0 : Mem} {Q : Exit → Act → World → Prop} (hT : ∀ t i, T t = some i → TF P t i) (hsel : Region.noSelect l.toArray = true) :
  ∀ (n : Nat) (listed : Array Bool) (cd : List (Nat × List Prop)) (s : St) (ls : List Leaf), explore P T tab lent l n listed cd s = some ls → (∀ y ∈ ls, AllC y.1 ∧ ∀ M a, Ext big M0 M → Rel M y.2 a → Q .normal a M.w) → ∀ M a, Ext big M0 M → Rel M s a → wpAny P .any l.toArray (QN Q) n listed a M.w := by
 intro n
 induction n with
 | zero =>
  intro listed cd s ls h hq M a he hr
  unfold explore at h
  split at h
  ·rename_i hrd
   cases h
   exact ⟨hrd, rfl, (hq _ List.mem_cons_self).2 M a he hr⟩
  ·cases h
 | succ n ih =>
  intro listed cd s ls h hq M a he hr
  unfold explore at h
  split at h
  ·rename_i hrd
   cases h
   exact ⟨fun _ => ⟨rfl, (hq _ List.mem_cons_self).2 M a he hr⟩, fun i hi => (by rw [hrd] at hi; cases hi)⟩
  ·rename_i j r hrd
   split at h
   ·rename_i i cs s1 hf
    obtain ⟨hi, o, ho, hfree, g, c, v, hg, h1, h2, h3⟩ := firstU_sound hf
    rw [← hrd] at hi
    obtain ⟨y, hy, hyc⟩ := leaf_some h
    have hcs := (AllC_ins.1 (hyc (hq y hy).1)).1
    obtain ⟨u, hyl, hr1⟩ := first_yields (P := P) hT hg h1 h2 h3 hcs hr
    exact wpAny_first ho (Region.noSelect_spec hsel) (fun c a w h => by cases h.1) n listed a M.w (Region.free_spec ho hfree) hi hyl (ih _ _ _ _ h hq M _ he hr1)
   ·refine ⟨fun h0 => (by rw [hrd] at h0; cases h0), fun i hi => ?_⟩
    rw [hrd] at hi
    obtain ⟨x, hx, hm⟩ := branch_mem h i hi
    split at hx
    ·rename_i cs s1 hst
     obtain ⟨y, hy, hyc⟩ := leaf_some hx
     have hcs := (AllC_ins.1 (hyc (hq y (hm y hy)).1)).1
     exact stepAny_sound hT hst hcs hr fun M' a' he' hr' => ih _ _ _ _ hx (fun z hz => hq z (hm z hz)) M' a' (he.trans he') hr'
    ·cases hx
def exploreCut (P : Program) (T : Nat → Option TI) (tab : Tab) (lent : Bool) (l : List Oper) (ks hs : List Nat) (s : St) : Option (List Leaf) :=
 match explore P T tab lent l l.length (Array.replicate l.length false) [] s with
 | some ls => some (ls.map fun y => (y.1, cutS ks hs y.2))
 | none => none
theorem awp_any (tab : Tab) (lent : Bool) (ks hs : List Nat) (n : Nat) (cs : List (Nat × List Prop)) (s' : St) (hm : P.follows .mixedOrders = true) (hsel : Region.noSelect l.toArray = true) (hT : ∀ t i, T t = some i → TF P t i) (h : exploreCut P T tab lent l ks hs s = some (List.replicate n (cs, s'))) (hc : AllC cs) (hk : K .normal s') :
  AWp P (.region id l.toArray true) K s := ⟨fun M0 M a he hr => by
 unfold exploreCut at h
 split at h
 ·rename_i ls hls
  simp only [Option.some.injEq] at h
  have hall : ∀ y ∈ ls, AllC y.1 ∧ ∀ M a, Ext big M0 M → Rel M y.2 a → Qc K M0 .normal a M.w := by
   intro y hy
   have hmem : (y.1, cutS ks hs y.2) ∈ List.replicate n (cs, s') := by
    rw [← h]
    exact List.mem_map_of_mem (f := fun y : Leaf => (y.1, cutS ks hs y.2)) hy
   have heq := List.eq_of_mem_replicate hmem
   simp only [Prod.mk.injEq] at heq
   refine ⟨by rw [heq.1]; exact hc, fun M a he hr => ?_⟩
   obtain ⟨M', h3, h4, h5⟩ := awk_cut ks hs y.2 M a hr
   rw [heq.2] at h3
   exact ⟨s', M', hk, h3, h4, he.trans h5⟩
  have hex := explore_sound (M0 := M0) (Q := Qc K M0) hT hsel l.length _ [] s ls hls hall M.drawn a (he.trans ((drawn_ext M).mono fun x hx => by cases hx)) (drawn_rel hr)
  refine wp_mono (wp_region_any (Q := QN (Qc K M0)) hm (by simp only [List.size_toArray]; exact hex)) fun e a w hq => ?_
  obtain ⟨rfl, hq⟩ := hq
  exact hq
 ·cases h⟩
end
end Go.Ab
namespace Go.Ab
open Go.RowKit Go.WideShapes Go.ChangeShapes Go.Deep
variable {W : World}
def argM (W : World) : Mem := ⟨fun _ => none, [], W, fun b => b < W.heap.size⟩
theorem argM_live (W : World) (b : Nat) : ¬ (argM W).live b := by
 rintro ⟨⟨x, r⟩, o, p, h, _⟩
 cases r <;> cases h
theorem argM_ok (W : World) : MOk (argM W) := ⟨Named.nil, fun b hb => ⟨hb, argM_live W b⟩, fun x _ _ _ _ _ _ h => (by obtain ⟨x, r⟩ := x; cases r <;> cases h), fun x _ h => (by obtain ⟨x, r⟩ := x; cases r <;> cases h), fun x _ _ _ h => (by obtain ⟨x, r⟩ := x; cases r <;> cases h)⟩
theorem argM_below {M' : Mem} (h : Ext big (argM W) M') : Below W.heap.size W M'.w :=
 ⟨h.os, h.tape, h.output, h.size, fun k hk => (h.still k hk (argM_live W k)).1⟩
theorem argM_row {len sz : Nat} {C : Nat → Nat → Value → Prop} {a : Addr} {cap : Nat} (hsz : 0 < sz) (h1 : len ≤ cap) (h2 : cap ≤ maxLen) (h : ∀ i, i < len → ∀ j, j < sz → ∃ u, W.cell? (a.add (i * sz + j)) = some u ∧ C i j u) :
  (argM W).roSl len sz C (.slice (some a) len cap) := by
 refine ⟨_, cap, rfl, h1, h2, ?_⟩
 rcases Nat.eq_zero_or_pos len with h0 | h0
 ·exact .inl h0
 ·obtain ⟨u, hu, _⟩ := h 0 h0 0 hsz
  have hs : a.spot = none := by
   have e : a.add (0 * sz + 0) = a := by simp [Addr.add]
   rw [e] at hu
   unfold World.cell? at hu
   split at hu
   ·split at hu
    ·cases hu
    ·rename_i hn
     cases hsp : a.spot with
     | none => rfl
     | some x => rw [hsp] at hn; simp at hn
   ·cases hu
  obtain ⟨b, off, spot⟩ := a
  simp only at hs
  subst hs
  refine .inr ⟨b, off, rfl, ⟨?_, argM_live W b⟩, fun i hi j hj => ?_⟩
  ·have := World.block_lt_of_cell? _ _ hu
   rwa [show ((⟨b, off, none⟩ : Addr).add (0 * sz + 0)).block = b from by simp [Addr.add]] at this
  ·obtain ⟨u, hu, hc⟩ := h i hi j hj
   rw [Addr.add_lit] at hu
   exact ⟨u, hu, hc⟩
theorem argM_nil {sz : Nat} {C : Nat → Nat → Value → Prop} : (argM W).roSl 0 sz C (.slice none 0 0) := ⟨none, 0, rfl, Nat.le_refl _, Nat.zero_le _, .inl rfl⟩
section
variable {H : Type} {enc : TypeId × Value → H} {P : Program} {W : World} {base : Nat} {held : Bool}
variable {k : IntKind} {v : Value}
theorem lit_inR {n : Int} (h : (Lit.int k n).wf = true) : inR k n := by
 cases k <;> simpa [Lit.wf, IntKind.min, IntKind.max, IntKind.signed, IntKind.bits, inR] using h
theorem rd_int {t : TypeId} {fuel : Nat} {x : DataW H × List MemPlace} {sp : Nat → Bool} (ht : P.underlying t = some (.int k)) (h : DataW.trod enc P W base sp held fuel t [v] = some x) : ∃ n, v = .int k n ∧ inR k n := by
 obtain ⟨n, h1, _, h3⟩ := DataW.trod_int ht h
 simp only [List.cons.injEq, and_true] at h1
 exact ⟨n, h1, lit_inR h3⟩
def cellInt (W : World) (a : Addr) (i : Nat) : Int := match W.cell? (a.add i) with | some (.int _ n) => n | _ => 0
theorem cellInt_eq {a : Addr} {i : Nat} {n : Int} (h : W.cell? (a.add i) = some (.int k n)) : cellInt W a i = n := by simp [cellInt, h]
theorem rd_fields {t e : TypeId} {fs : Array Field} {fuel : Nat} {x : DataW H × List MemPlace} (ht : P.underlying t = some (.slice e)) (he : P.underlying e = some (.struct fs)) (hone : oneCellFields P fs = true) (hC : P.cellsOf e = fs.size)
  (h : DataW.trod enc P W base (fun _ => true) held fuel t [v] = some x) : v = .slice none 0 0 ∨ ∃ (a : Addr) (len cap : Nat), v = .slice (some a) len cap ∧ len ≤ cap ∧ cap ≤ maxLen ∧
   ∀ i, i < len → ∀ (j : Nat) (f : Field), fs[j]? = some f → ∃ (u : Value) (y : DataW H × List MemPlace) (n : Nat), W.cell? (a.add (i * fs.size + j)) = some u ∧ DataW.trod enc P W base (fun _ => true) held n f.type [u] = some y := by
 rcases open_slice ht h with ⟨h1, _⟩ | ⟨a, len, cap, m, n, D, Pl, h1, _, h2, h3, h4, _, h5⟩
 ·simp only [List.cons.injEq, and_true] at h1
  exact .inl h1
 ·simp only [List.cons.injEq, and_true] at h1
  simp only [if_true] at h4
  refine .inr ⟨a, len, cap, h1, h2, h3, fun i hi j f hj => ?_⟩
  obtain ⟨cs', hc, ht'⟩ := h5 i (by omega)
  rw [hC] at hc
  obtain ⟨ys, n', hn', hy, hlen, hyl, hf⟩ := DataW.trod_struct he ht'
  obtain ⟨_, hcl, hat⟩ := World.cells?_some hc
  obtain ⟨ho, hk⟩ := hone_of hone j f hj
  have hjl : j < fs.size := (Array.getElem?_eq_some_iff.1 hj).1
  have hcell := hat j hjl
  have hv : cs'[j]? = some (cs'[j]'(by omega)) := List.getElem?_eq_getElem (by omega)
  have h1 := hf j f hj
  rw [ho, hk] at h1
  have hone' : (cs'.drop j).take 1 = [cs'[j]'(by omega)] := by
   rw [List.drop_eq_getElem_cons (by omega)]
   rfl
  rw [hone'] at h1
  have hys : ys[j]? = some (ys[j]'(by omega)) := List.getElem?_eq_getElem (by omega)
  exact ⟨_, _, n', by rw [← Go.Deep.add_add, hcell, hv], h1.trans hys⟩
theorem args_stay {ts : List TypeId} {vs : List Value} {ds : List (DataW H)} {ps : List MemPlace} {W' : World} {sp : Nat → Bool} (hl : laidOutB P = true) (hb : Below W.heap.size W W') (ht : ts.all (fun t => P.readableRec t && decide (t < P.types.size)) = true)
  (h : DataW.TrodAll enc P W 0 (fun _ => true) true ts vs ds ps) (hlt : ∀ x ∈ ps, x.block < W.heap.size) (hsp : ∀ x ∈ ps, sp x.block = true) : DataW.TrodAll enc P W' 0 sp true ts vs ds ps := by
 induction ts generalizing vs ds ps with
 | nil =>
  cases vs <;> cases ds <;> first | exact h | exact h.elim
 | cons t ts ih =>
  cases vs <;> cases ds <;> first | exact h.elim | skip
  simp only [List.all_cons, Bool.and_eq_true, decide_eq_true_eq] at ht
  obtain ⟨p, q, h1, h2, rfl⟩ := h
  exact ⟨p, q, WideElems.Trod_stays hl ht.1.1 ht.1.2 h1 (fun x hx => hb.same (hlt x (List.mem_append_left _ hx))) (fun x hx => hsp x (List.mem_append_left _ hx)),
   ih ht.2 h2 (fun x hx => hlt x (List.mem_append_right _ hx)) (fun x hx => hsp x (List.mem_append_right _ hx)), rfl⟩
theorem post_kept {f : Func} {s : ChangeSpec} {W W' : World} {args : Array Value} {ds gs : List (DataW H)} {before pa pv : List MemPlace}
  (hW : DataW.Whole enc P f.params.toList s.vars false W args.toList ds gs before)
  (hres : ∀ (b : Nat) (sp : Nat → Bool) (hd : Bool), DataW.TrodAll enc P W' b sp hd f.resultTypes.toList (v.resultList f.resultTypes.size) (s.fn H (ds ++ gs)).results [])
  (hargs : ∀ sp : Nat → Bool, (∀ p ∈ before, sp p.block = true) → DataW.TrodAll enc P W' 0 sp true f.params.toList args.toList (s.fn H (ds ++ gs)).args pa)
  (hvars : ∀ sp : Nat → Bool, (∀ p ∈ before, sp p.block = true) → DataW.TrodVars enc P W' sp s.vars (s.fn H (ds ++ gs)).vars pv)
  (hps : before = pa ++ pv) (hb : Below W.heap.size W W')
  (_hok : ∀ (j : Nat) (t : TypeId) (r : Value), f.resultTypes[j]? = some t → (v.resultList f.resultTypes.size)[j]? = some r → Value.okWide P W' .any 0 t r) :
  s.post enc P f false true false false W args v W' := by
 have hlt : ∀ p ∈ before, p.block < W.heap.size := fun p hp => hW.lt p hp
 have hold : ∀ p ∈ before, (fun b => decide (b < W.heap.size)) p.block = true := fun p hp => by simpa using hlt p hp
 refine ⟨ds, gs, before, [], pa, pv, hW, hres _ _ _, hargs _ hold, hvars _ hold, World.keptBut_mono (fun p hp => ⟨hp, ?_⟩) (hb.frame (· ∈ before)), fun h => by cases h⟩
 rw [hps, List.mem_append] at hp
 exact Or.inr hp
end
end Go.Ab
