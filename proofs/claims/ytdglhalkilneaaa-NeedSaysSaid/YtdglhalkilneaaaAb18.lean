/- The abstract machine, part 18: a slice of no elements gives up what lies behind it. -/
import Derived.Test.YtdglhalkilneaaaAb17
namespace Go.Ab
open Go

theorem MOk_reset {M : Mem} (hM : MOk M) (id : Nat) (o o' : Obj) (h : look id M.H = some o) (ho : o'.len = 0) (hz : o'.sz = o.sz) :
    MOk ⟨M.μ, ins id o' (mapV (clrO (Nat.beq id)) M.H), M.w, M.free⟩ ∧ Ext (Nat.beq id) M ⟨M.μ, ins id o' (mapV (clrO (Nat.beq id)) M.H), M.w, M.free⟩ := by
  have hlook : ∀ x ox, look x (ins id o' (mapV (clrO (Nat.beq id)) M.H)) = some ox → ∃ o1, look x M.H = some o1 ∧ ox.sz = o1.sz ∧ ox.len ≤ o1.len ∧ (x = id → ox = o') ∧ (x ≠ id → ox = clrO (Nat.beq id) o1) := by
    intro x ox hx
    rw [look_ins] at hx
    by_cases hxi : x = id
    · rw [if_pos hxi] at hx
      cases hx
      subst hxi
      exact ⟨o, h, hz, by rw [ho]; exact Nat.zero_le _, fun _ => rfl, fun hn => absurd rfl hn⟩
    · rw [if_neg hxi, look_mapV, Option.map_eq_some_iff] at hx
      obtain ⟨o1, h1, rfl⟩ := hx
      exact ⟨o1, h1, clrO_sz _ _, by rw [clrO_len]; exact Nat.le_refl _, fun hn => absurd hn hxi, fun _ => rfl⟩
  have hext : Ext (Nat.beq id) M ⟨M.μ, ins id o' (mapV (clrO (Nat.beq id)) M.H), M.w, M.free⟩ := by
    refine ⟨⟨rfl, rfl, rfl, Nat.le_refl _, fun k hk hl => ⟨rfl, ?_⟩, fun _ h => h, fun _ h => .inl h⟩, fun x ox hx hl => ?_⟩
    · rintro ⟨x, ox, q, h1, h2⟩
      obtain ⟨o1, h3, _⟩ := hlook x ox h1
      exact hl ⟨x, o1, q, h3, h2⟩
    · have hxi : x ≠ id := by
        rintro rfl
        rw [beq_self] at hx
        cases hx
      refine ⟨clrO (Nat.beq id) ox, ?_, clrO_sz _ _, by rw [clrO_len]; exact Nat.le_refl _, rfl, fun b' q cur' e' hm hc' => ⟨cur', hc', rfl⟩⟩
      show look x (ins id o' (mapV (clrO (Nat.beq id)) M.H)) = _
      rw [look_ins, if_neg hxi, look_mapV, hl]; rfl
  refine ⟨⟨fun k hk => ⟨(hM.fr k hk).1, (hext.still k (hM.fr k hk).1 (hM.fr k hk).2).2⟩, fun x y ox oy b' q r hx hy hmx hmy => ?_, fun x ox hx hm => ?_, fun x ox b' q hx hm => ?_⟩, hext⟩
  · obtain ⟨o1, h1, _⟩ := hlook x ox hx
    obtain ⟨o2, h2, _⟩ := hlook y oy hy
    exact hM.inj x y o1 o2 b' q r h1 h2 hmx hmy
  · obtain ⟨o1, h1, _, h2, _⟩ := hlook x ox hx
    have := hM.none_ x o1 h1 hm
    omega
  · obtain ⟨o1, h1, h2, h3, h4, h5⟩ := hlook x ox hx
    obtain ⟨cur1, e1, g1, g2, g3⟩ := hM.obj x o1 b' q h1 hm
    refine ⟨cur1, e1, g1, Nat.le_trans (Nat.add_le_add_left (by rw [h2]; exact Nat.mul_le_mul_right _ h3) _) g2, fun i hi j hj => ?_⟩
    by_cases hxi : x = id
    · rw [h4 hxi, ho] at hi; omega
    · rw [h5 hxi] at hi hj ⊢
      rw [clrO_len] at hi
      rw [clrO_sz] at hj ⊢
      obtain ⟨u, k1, k2, k3⟩ := g3 i hi j hj
      exact ⟨u, k1, k2, by rw [clrO_cell]; exact VR_ext hext k3⟩

theorem awk_reset (id d : Nat) (o o' : Obj) (s : St) (h : look id s.hp = some o) (hd : look d s.tm = some (.one (.rw id 0 0))) (hb : big id = true) (ho : o'.len = 0) (hz : o'.sz = o.sz) :
    AWk s ⟨s.n, ins d (.one (.rw id 0 0)) (mapV (clrA (Nat.beq id)) s.tm), ins id o' (mapV (clrO (Nat.beq id)) s.hp)⟩ := fun M a hr => by
  rw [← hr.hp] at h ⊢
  obtain ⟨h1, h2⟩ := MOk_reset hr.ok id o o' h ho hz
  have h3 := hr.step rfl h1 h2
  refine ⟨_, ⟨rfl, h1, hr.defers, hr.size, fun e x he => ?_⟩, rfl, h2.mono (fun x hx => by have := Nat.eq_of_beq_eq_true hx; subst this; exact hb)⟩
  have he' : look e (ins d (.one (.rw id 0 0)) (mapV (clrA (Nat.beq id)) s.tm)) = some x := he
  rw [look_ins] at he'
  by_cases hed : e = d
  · rw [if_pos hed] at he'
    cases he'
    subst hed
    obtain ⟨u, hu, hv⟩ := hr.tm e _ hd
    refine ⟨u, hu, ?_⟩
    obtain ⟨o1, k1, _, k3⟩ := hv
    rw [h] at k1
    cases k1
    refine ⟨o', by show look id (ins id o' _) = _; rw [look_ins, if_pos rfl], Nat.zero_le _, ?_⟩
    rw [hz]
    exact k3
  · rw [if_neg hed] at he'
    exact h3.tm e x he'

/-! ### 'append(s, make([]T, n)...)' at a nil slice s -/
section
variable {P : Program} {T : Nat → Option TI}
theorem run_app_zeros {w : World} {t ti ty e : TypeId} {k : IntKind} {inf : TypeInfo} {zv : Value} (ht : P.underlying t = some (.slice e)) (hti : P.underlying ti = some (.int k)) (hi : P.info? e = some inf) (hz : inf.zero = some zv)
    {A : Option Addr} {m : Nat} (h0 : 0 < m) (hsz : 0 < inf.size) (h63 : m ≤ 9223372036854775807) (hb : m * inf.bytes ≤ 140737488355328) :
    (Builtin.append_ #[t, ti] ty #[.slice A 0 0, .int .i64 (m : Int)]).run P w =
      .ok (.slice (some ⟨w.heap.size, 0, none⟩) m (grownCap w m 0 e)) (w.drew.alloc (.cells (Builtin.zeroCells zv.cells m ++ Builtin.zeroCells zv.cells (grownCap w m 0 e - m)) e)) := by
  have hw : IntKind.i64.wrap (m : Int) = (m : Int) := by
    have h1 : (m : Int) ≤ 9223372036854775807 := by omega
    have h2 : (m : Int) % 2 ^ 64 = m := by omega
    simp only [IntKind.wrap, IntKind.bits, IntKind.signed, h2]
    simp
    omega
  have hn0 : ¬ ((m : Int) < 0) := by omega
  have hne : ¬ (m = 0) := by omega
  have hmz : ¬ (m * inf.size = 0) := by
    intro h
    rcases Nat.mul_eq_zero.1 h with h | h <;> omega
  have hbi : ¬ (281474976710656 < (m : Int) * (inf.bytes : Int)) := by
    have : ((m * inf.bytes : Nat) : Int) ≤ 140737488355328 := by omega
    rw [Int.natCast_mul] at this
    omega
  have hfit := growslice_fits (need := m) (old := 0) (bytes := inf.bytes) h0 hb
  have h48' : ¬ (281474976710656 < Builtin.nextslicecap m 0 * inf.bytes) := by omega
  have h63' : ¬ (9223372036854775807 < (m : Int)) := by omega
  cases A <;> simp [loadCells, loadCellsFrom, Builtin.append_, run_underlying ht, run_underlying hti, sizeOf, typeInfo, zeroValue, hi, hz, hw, hn0, hbi, hne, hmz, h48', h63', Question.forced, newRow, grownCap, Builtin.firstCells, asInt, asIntOf]

/-- 'append(s, make([]T, n)...)', s nil, n not nought. -/
theorem aops_growz {K : Post} {s : St} {l : List Oper} {k : Nat} {o : Oper} {r : List Oper} {t ti : TypeId} {i ie ii : TI} {kk : IntKind} {x y : Operand} {d m : Nat} {ob : Obj} (hT : ∀ t i, T t = some i → TF P t i) (hl : l.drop k = o :: r)
    (ho : o.op = .call { callee := .builtin .append, args := #[x, y], argTypes := #[t, ti] }) (hg : o.guard = none) (hd : o.dst = some d) (hdn : Nat.ble (d + 1) s.n = true)
    (hi : T t = some i) (hik : i.kind = .slice) (hie : T i.elem = some ie) (hii : T ti = some ii) (hiik : ii.kind = .int kk)
    (hx : s.raw x = some (.one .nils)) (hy : s.raw y = some (.one (.int .i64 (m : Int)))) (hm : 0 < m) (hb : m * ie.bytes ≤ 140737488355328) (h63 : m ≤ 9223372036854775807)
    (hob : zeroObj ie m = some ob) (hzf : zeroFits ie = true) (hszf : szFits ie = true) (hsz : Nat.ble 1 ie.sz = true)
    (hk : AOps P l (k + 1) K ⟨s.n, ins d (.one (.rw (100 + d) 0 m)) (mapV (clrA (Nat.beq (100 + d))) s.tm), ins (100 + d) (clrO (Nat.beq (100 + d)) ob) (mapV (clrO (Nat.beq (100 + d))) s.hp)⟩) : AOps P l k K s := ⟨fun M0 M a he hr => by
  have hdr : l.drop (k + 1) = r := by
    have h1 : (l.drop k).drop 1 = r := by rw [hl]; rfl
    rwa [List.drop_drop] at h1
  rw [hl]
  unfold wpList
  have hM := hr.ok
  have hF := hT _ _ hie
  have hu := kind_slice (hT _ _ hi) hik
  have hui := kind_int (hT _ _ hii) hiik
  obtain ⟨A, hA⟩ := raw_sound hr hx
  have hyv := VR_int (raw_sound hr hy)
  obtain ⟨hlen, hsz', hcell⟩ := zeroObj_ok (M := M) hob hzf
  obtain ⟨inf, z, g1, g2, g3, g4, g5, g6⟩ := zero_len (M := M) hF
  have hieq : ie.sz = ie.zero.length := Nat.eq_of_beq_eq_true hszf
  have hs1 := Nat.le_of_ble_eq_true hsz
  have hrun0 := run_app_zeros (P := P) (w := M.w) (ty := o.type) hu hui g1 g4 (A := A) hm (by omega) h63 (by rw [g3]; exact hb)
  have hgc := grownCap_ge M.w m 0 i.elem
  have hgm := grownCap_le_maxLen M.w m 0 i.elem (by simp only [maxLen]; omega)
  generalize hcap : grownCap M.w m 0 i.elem = cap at *
  have hcz : (Builtin.zeroCells z.cells m ++ Builtin.zeroCells z.cells (cap - m)).size = cap * ie.zero.length := by
    rw [Array.size_append, size_zeroCells, size_zeroCells, g5, ← Nat.add_mul]
    congr 1
    omega
  obtain ⟨hok, hext⟩ := alloc_bind hM (100 + d) ob (Builtin.zeroCells z.cells m ++ Builtin.zeroCells z.cells (cap - m)) i.elem M.w.drew rfl rfl rfl rfl
    (by rw [hlen, hsz', hcz]; exact Nat.mul_le_mul_right _ (by omega)) (fun i hi j hj => by
      rw [hlen] at hi
      rw [hsz'] at hj ⊢
      have hidx : i * ie.zero.length + j < m * ie.zero.length := by
        have h4 : (i + 1) * ie.zero.length ≤ m * ie.zero.length := Nat.mul_le_mul_right _ (by omega)
        rw [Nat.add_mul, Nat.one_mul] at h4
        omega
      obtain ⟨u, hu1, hu2⟩ := g6.2 j _ (List.getElem?_eq_getElem hj)
      have hmod : (i * ie.zero.length + j) % z.cells.size = j := by rw [g5, Nat.mul_comm, Nat.mul_add_mod]; exact Nat.mod_eq_of_lt hj
      refine ⟨u, ?_, VR_oneCell hu2, hcell i j _ hi (List.getElem?_eq_getElem hj) u hu2⟩
      rw [Array.getElem?_append_left (by rw [size_zeroCells, g5]; exact hidx)]
      have hjz : j < z.cells.size := by omega
      have hzc : z.cells[j]! = u := by
        rw [getElem!_pos z.cells j hjz]
        rw [Array.getElem?_eq_getElem hjz] at hu1
        exact Option.some.inj hu1
      unfold Builtin.zeroCells
      rw [Array.getElem?_map, Array.getElem?_range, if_pos (by rw [g5]; exact hidx)]
      simp only [Option.map_some, hmod, hzc])
  have hrun : (execOp a.eval o).run P M.w = .ok (.value (.slice (some ⟨M.w.heap.size, 0, none⟩) m cap)) (M.w.drew.alloc (.cells (Builtin.zeroCells z.cells m ++ Builtin.zeroCells z.cells (cap - m)) i.elem)) := by
    simp only [execOp, ho, resolve, Sem.run_bind, Sem.run_pure, Result.andThen_ok, invoke, builtin, List.map_toArray, List.map_cons, List.map_nil, hA, hyv, hrun0]
  rw [if_pos (by simp [Region.wanted, hg])]
  refine .inl ?_
  generalize hM' : (⟨fun x => if x = 100 + d then some (M.w.heap.size, 0) else M.μ x, ins (100 + d) (clrO (Nat.beq (100 + d)) ob) (mapV (clrO (Nat.beq (100 + d))) M.H), M.w.drew.alloc (.cells (Builtin.zeroCells z.cells m ++ Builtin.zeroCells z.cells (cap - m)) i.elem), M.free⟩ : Mem) = M' at hok hext
  have hH' : M'.H = ins (100 + d) (clrO (Nat.beq (100 + d)) ob) (mapV (clrO (Nat.beq (100 + d))) M.H) := by rw [← hM']
  have hw' : M'.w = M.w.drew.alloc (.cells (Builtin.zeroCells z.cells m ++ Builtin.zeroCells z.cells (cap - m)) i.elem) := by rw [← hM']
  have hμ' : M'.μ (100 + d) = some (M.w.heap.size, 0) := by rw [← hM']; exact if_pos rfl
  have hrel := hr.step hH' hok hext
  have hvr : AVR M' (.one (.rw (100 + d) 0 m)) (.slice (some ⟨M.w.heap.size, 0, none⟩) m cap) := ⟨clrO (Nat.beq (100 + d)) ob, by rw [hH', look_ins, if_pos rfl], by rw [clrO_len, hlen]; omega,
    .inr ⟨M.w.heap.size, 0, 0, cap, hμ', rfl, by omega, hgm, by omega, _, i.elem, by rw [hw']; exact heap_alloc_new M.w.drew _, by rw [clrO_sz, hcz, hsz', Nat.zero_add, Nat.zero_add]; exact Nat.le_refl _⟩⟩
  have hput : putD o.dst (.one (.rw (100 + d) 0 m)) s.n (mapV (clrA (Nat.beq (100 + d))) s.tm) = some (ins d (.one (.rw (100 + d) 0 m)) (mapV (clrA (Nat.beq (100 + d))) s.tm)) := by
    rw [hd]; simp only [putD, hdn, cond_true]
  rw [hr.hp] at hrel
  have hgo := hk.run M0 M' _ (he.trans (hext.mono (fun x hx => by have := Nat.eq_of_beq_eq_true hx; subst this; exact Nat.ble_eq_true_of_le (by omega)))) (hrel.put hput hvr)
  rw [hdr] at hgo
  unfold Oper.wp
  rw [hrun, ← hw']
  exact hgo⟩
end
end Go.Ab
