/- The abstract machine: parts 17 to 31. -/
import Derived.Test.YtlmbjjbcdgckfaaDoorAbB
import Derived.Lib.SliceRun
import Derived.WalkSpells
import Derived.MapKept
namespace Go.Ab
open Go
variable {v : V1}
def noneIn : V1 → Prop
 | .ro c => c.len = 0
 | .rs c => c.len = 0
 | .rw _ _ n => n = 0
 | _ => True
def isSl : V1 → Bool
 | .ro _ => true
 | .rs _ => true
 | .nils => true
 | .rw _ _ _ => true
 | _ => false
theorem slice_form {M : Mem} {u : Value} (hs : isSl v = true) (h : VR M v u) : ∃ A n c, u = .slice A n c ∧ (A = none → noneIn v) ∧ (v = .nils → A = none) := by
 cases v with
 | ro c =>
  obtain ⟨A, cap, rfl, _, _, h⟩ := h
  refine ⟨A, _, cap, rfl, fun hA => ?_, fun q => (by cases q)⟩
  rcases h with h | ⟨b, off, hA', _⟩
  ·exact h
  ·rw [hA] at hA'; cases hA'
 | rs c =>
  obtain ⟨A, cap, rfl, _, _, h⟩ := h
  refine ⟨A, _, cap, rfl, fun hA => ?_, fun q => (by cases q)⟩
  rcases h with h | ⟨b, off, hA', _⟩
  ·exact h
  ·rw [hA] at hA'; cases hA'
 | nils =>
  exact ⟨none, 0, 0, h, fun _ => trivial, fun _ => rfl⟩
 | rw id off n =>
  obtain ⟨o, _, _, h⟩ := h
  rcases h with ⟨h, A, rfl⟩ | ⟨b, p, a, cap, _, rfl, _⟩
  ·exact ⟨A, 0, 0, rfl, fun _ => h, fun q => (by cases q)⟩
  ·exact ⟨_, n, cap, rfl, fun hA => (by cases hA), fun q => (by cases q)⟩
 | _ => cases hs
theorem aops_isnil2 {P : Program} {T : Nat → Option TI} {K : Post} {s : St} {l : List Oper} {k : Nat} {o : Oper} {r : List Oper} (neg : Bool) {t yt : TypeId} {i : TI} {x d : Nat} (hT : ∀ t i, T t = some i → TF P t i) (hl : l.drop k = o :: r)
  (ho : o.op = .binOp (cond neg .neq .eql) t (.tmp x) (.const (.slice none 0 0)) yt) (hg : o.guard = none) (hd : o.dst = some d) (hdn : Nat.ble (d + 1) s.n = true)
  (hi : T t = some i) (hik : i.kind = .slice) (hx : s.raw (.tmp x) = some (.one v)) (hs : isSl v = true)
  (hk : ∀ b : Bool, (b = true → noneIn v) → (v = .nils → b = true) → AOps P l (k + 1) K ⟨s.n, ins d (.one (.bool (cond neg (!b) b))) s.tm, s.hp⟩) : AOps P l k K s := ⟨fun M0 M a he hr => by
 have hdr : l.drop (k + 1) = r := by
  have h1 : (l.drop k).drop 1 = r := by rw [hl]; rfl
  rwa [List.drop_drop] at h1
 rw [hl]
 unfold wpList
 have hu := kind_slice (hT _ _ hi) hik
 have hv := raw_sound hr hx
 obtain ⟨A, n, c, hA, hnone, hyes⟩ := slice_form hs hv
 have hrun : (execOp a.eval o).run P M.w = .ok (.value (.bool (cond neg (!A.isNone) A.isNone))) M.w := by
  have hc : a.eval (.const (.slice none 0 0)) = .slice none 0 0 := rfl
  cases neg with
  | false =>
   have h2 := Lib.run_eql_slice_nil (P := P) M.w t i.elem A n c 0 0 hu
   simp only [cond_false] at ho ⊢
   simp only [execOp, ho, hA, hc, eqGuard, Sem.run_bind]
   simp only [h2, Bool.not_true, Bool.false_eq_true, if_false, Sem.run_pure, Result.andThen_ok]
  | true =>
   have h2 := run_neq_slice_nil_any (P := P) M.w t i.elem A n c 0 0 hu
   simp only [cond_true] at ho ⊢
   simp only [execOp, ho, hA, hc, eqGuard, Sem.run_bind]
   simp only [h2, Bool.not_true, Bool.false_eq_true, if_false, Sem.run_pure, Result.andThen_ok]
 rw [if_pos (by simp [Region.wanted, hg])]
 refine .inl ?_
 have hput : putD (some d) (.one (.bool (cond neg (!A.isNone) A.isNone))) s.n s.tm = some (ins d (.one (.bool (cond neg (!A.isNone) A.isNone))) s.tm) := by
  simp only [putD, hdn, cond_true]
 have hvr : AVR M (.one (.bool (cond neg (!A.isNone) A.isNone))) (.bool (cond neg (!A.isNone) A.isNone)) := rfl
 have hput2 : putD o.dst (.one (.bool (cond neg (!A.isNone) A.isNone))) s.n s.tm = some (ins d (.one (.bool (cond neg (!A.isNone) A.isNone))) s.tm) := by rw [hd]; exact hput
 have hgo := (hk A.isNone (fun hb => hnone (by simpa using hb)) (fun q => by rw [hyes q]; rfl)).run M0 M _ he (hr.put hput2 hvr)
 rw [hdr] at hgo
 unfold Oper.wp
 rw [hrun]
 exact hgo⟩
theorem aops_isnil {P : Program} {T : Nat → Option TI} {K : Post} {s : St} {l : List Oper} {k : Nat} {o : Oper} {r : List Oper} (neg : Bool) {t yt : TypeId} {i : TI} {x d : Nat} (hT : ∀ t i, T t = some i → TF P t i) (hl : l.drop k = o :: r)
  (ho : o.op = .binOp (cond neg .neq .eql) t (.tmp x) (.const (.slice none 0 0)) yt) (hg : o.guard = none) (hd : o.dst = some d) (hdn : Nat.ble (d + 1) s.n = true)
  (hi : T t = some i) (hik : i.kind = .slice) (hx : s.raw (.tmp x) = some (.one v)) (hs : isSl v = true)
  (hk : ∀ b : Bool, (b = true → noneIn v) → AOps P l (k + 1) K ⟨s.n, ins d (.one (.bool (cond neg (!b) b))) s.tm, s.hp⟩) : AOps P l k K s := aops_isnil2 neg hT hl ho hg hd hdn hi hik hx hs fun b h _ => hk b h
theorem awk_boxcell (id k : Nat) (n sz : Nat) (vs : List V1) (v v' : V1) (s : St) (h : look id s.hp = some (.box n sz vs)) (hv : vs[k]? = some v) (hw : WkV s.hp v v') : AWk s ⟨s.n, s.tm, ins id (.box n sz (vs.set k v')) s.hp⟩ :=
 awk_obj id _ _ s h rfl rfl (fun i j _ _ => by
  simp only [Obj.cell]
  by_cases hk : i * sz + j = k
  ·subst hk
   rw [List.getD_eq_getElem?_getD, hv, List.getD_eq_getElem?_getD, List.getElem?_set_self (List.getElem?_eq_some_iff.1 hv).1]
   exact hw
  ·rw [List.getD_eq_getElem?_getD, List.getD_eq_getElem?_getD, List.getElem?_set_ne (Ne.symm hk)]
   exact WkV.refl _ _)
inductive WkL (H : Heap) : List V1 → List V1 → Prop where
 | nil : WkL H [] []
 | same (v : V1) {r r' : List V1} (h : WkL H r r') : WkL H (v :: r) (v :: r')
 | no0 (c : C0) (hc : c.len = 0) {r r' : List V1} (h : WkL H r r') : WkL H (.nils :: r) (.ro c :: r')
 | no1 (c : C1) (hc : c.len = 0) {r r' : List V1} (h : WkL H r r') : WkL H (.nils :: r) (.rs c :: r')
inductive WkArgs (H : Heap) : List AV → List AV → Prop where
 | nil : WkArgs H [] []
 | cons {v v' : AV} (hv : WkA H v v') {r r' : List AV} (h : WkArgs H r r') : WkArgs H (v :: r) (v' :: r')
end Go.Ab
namespace Go.Ab
open Go
theorem MOk_reset {M : Mem} (hM : MOk M) (id : Nat) (o o' : Obj) (h : look id M.H = some o) (ho : o'.len = 0) (hz : o'.sz = o.sz) (hpl : o'.plain = true) :
  MOk ⟨M.μ, ins id o' (mapV (clrO (Nat.beq id)) M.H), M.w, M.free⟩ ∧ Ext (Nat.beq id) M ⟨M.μ, ins id o' (mapV (clrO (Nat.beq id)) M.H), M.w, M.free⟩ := by
 have hlook : ∀ (x : Key) ox, lk (ins id o' (mapV (clrO (Nat.beq id)) M.H)) x = some ox → ∃ o1, lk M.H x = some o1 ∧ ox.sz = o1.sz ∧ ox.len ≤ o1.len ∧ (x.1 = id → ox = o') ∧ (x.1 ≠ id → ox = clrO (Nat.beq id) o1) := by
  intro x ox hx
  by_cases hxi : x.1 = id
  ·obtain ⟨x1, r⟩ := x
   simp only at hxi
   subst hxi
   cases r with
   | none =>
    rw [lk_ins_self] at hx
    cases hx
    exact ⟨o, h, hz, by rw [ho]; exact Nat.zero_le _, fun _ => rfl, fun hn => absurd rfl hn⟩
   | some i => rw [lk_ins_row hpl] at hx; cases hx
  ·rw [lk_ins_ne hxi] at hx
   obtain ⟨o1, h1, rfl⟩ := lk_clr hx
   exact ⟨o1, h1, clrO_sz _ _, by rw [clrO_len]; exact Nat.le_refl _, fun hn => absurd hn hxi, fun _ => rfl⟩
 have hext : Ext (Nat.beq id) M ⟨M.μ, ins id o' (mapV (clrO (Nat.beq id)) M.H), M.w, M.free⟩ := by
  refine ⟨⟨rfl, rfl, rfl, Nat.le_refl _, Nat.le_refl _, fun k hk hl => ⟨rfl, ?_⟩, fun _ h => h, fun _ h => .inl h⟩, fun x ox hx hl => ?_⟩
  ·rintro ⟨x, ox, q, h1, h2⟩
   obtain ⟨o1, h3, _⟩ := hlook x ox h1
   exact hl ⟨x, o1, q, h3, h2⟩
  ·have hxi : x.1 ≠ id := by
    intro e
    rw [e, beq_self] at hx
    cases hx
   refine ⟨clrO (Nat.beq id) ox, ?_, clrO_sz _ _, by rw [clrO_len]; exact Nat.le_refl _, rfl, fun b' q cur' e' hm hc' => ⟨cur', hc', rfl⟩⟩
   show lk (ins id o' (mapV (clrO (Nat.beq id)) M.H)) x = _
   rw [lk_ins_ne hxi]
   exact lk_clr_of hM.named hx hl
 refine ⟨⟨(hM.named.clr _).insP hpl, fun k hk => ⟨(hM.fr k hk).1, (hext.still k (hM.fr k hk).1 (hM.fr k hk).2).2⟩, fun x y ox oy b' q r hx hy hmx hmy => ?_, fun x ox hx hm => ?_, fun x ox b' q hx hm => ?_⟩, hext⟩
 ·obtain ⟨o1, h1, _⟩ := hlook x ox hx
  obtain ⟨o2, h2, _⟩ := hlook y oy hy
  exact hM.inj x y o1 o2 b' q r h1 h2 hmx hmy
 ·obtain ⟨o1, h1, _, h2, _⟩ := hlook x ox hx
  have := hM.none_ x o1 h1 hm
  omega
 ·obtain ⟨o1, h1, h2, h3, h4, h5⟩ := hlook x ox hx
  obtain ⟨cur1, e1, g1, g2, g3⟩ := hM.obj x o1 b' q h1 hm
  refine ⟨cur1, e1, g1, Nat.le_trans (Nat.add_le_add_left (by rw [h2]; exact Nat.mul_le_mul_right _ h3) _) g2, fun i hi j hj => ?_⟩
  by_cases hxi : x.1 = id
  ·rw [h4 hxi, ho] at hi; omega
  ·rw [h5 hxi] at hi hj ⊢
   rw [clrO_len] at hi
   rw [clrO_sz] at hj ⊢
   obtain ⟨u, k1, k2, k3⟩ := g3 i hi j hj
   exact ⟨u, k1, k2, by rw [clrO_cell]; exact VR_ext hext k3⟩
theorem awk_reset (id d : Nat) (o o' : Obj) (s : St) (h : look id s.hp = some o) (hd : look d s.tm = some (.one (.rw id 0 0))) (hb : big id = true) (ho : o'.len = 0) (hz : o'.sz = o.sz) (hpl : o'.plain = true := by rfl) :
  AWk s ⟨s.n, ins d (.one (.rw id 0 0)) (mapV (clrA (Nat.beq id)) s.tm), ins id o' (mapV (clrO (Nat.beq id)) s.hp)⟩ := fun M a hr => by
 rw [← hr.hp] at h ⊢
 obtain ⟨h1, h2⟩ := MOk_reset hr.ok id o o' h ho hz hpl
 have h3 := hr.step rfl h1 h2
 refine ⟨_, ⟨rfl, h1, hr.defers, hr.size, fun e x he => ?_⟩, rfl, h2.mono (fun x hx => by have := Nat.eq_of_beq_eq_true hx; subst this; exact hb)⟩
 have he' : look e (ins d (.one (.rw id 0 0)) (mapV (clrA (Nat.beq id)) s.tm)) = some x := he
 rw [look_ins] at he'
 by_cases hed : e = d
 ·rw [if_pos hed] at he'
  cases he'
  subst hed
  obtain ⟨u, hu, hv⟩ := hr.tm e _ hd
  refine ⟨u, hu, ?_⟩
  obtain ⟨o1, k1, _, k3⟩ := hv
  rw [lk_none, h] at k1
  cases k1
  refine ⟨o', by show look id (ins id o' _) = _; rw [look_ins, if_pos rfl], Nat.zero_le _, ?_⟩
  rw [hz]
  exact k3
 ·rw [if_neg hed] at he'
  exact h3.tm e x he'
section
variable {P : Program} {T : Nat → Option TI}
theorem run_app_zeros {w : World} {t ti ty e : TypeId} {k : IntKind} {inf : TypeInfo} {zv : Value} (ht : P.underlying t = some (.slice e)) (hti : P.underlying ti = some (.int k)) (hi : P.info? e = some inf) (hz : inf.zero = some zv)
  {A : Option Addr} {m : Nat} (h0 : 0 < m) (hsz : 0 < inf.size) (h63 : m ≤ 9223372036854775807) (hb : m * inf.bytes ≤ 140737488355328) :
  (Builtin.append_ #[t, ti] ty #[.slice A 0 0, .int .i64 (m : Int)]).run P w =
   .ok (.slice (some ⟨w.heap.size, 0, none⟩) m (grownCap w m 0 e)) (w.drew.alloc (.cells (Builtin.zeroCells zv.cells m ++ Builtin.zeroCells zv.cells (grownCap w m 0 e - m)) e)) := by
 have hw : IntKind.i64.wrap (m : Int) = (m : Int) := by
  have h1 : (m : Int) ≤ 9223372036854775807 := by omega
  have h2 : (m : Int) % 2 ^ 64 = m := by omega
  simp only [IntKind.wrap, IntKind.bits, IntKind.signed, h2]
  simp
  omega
 have hn0 : ¬ ((m : Int) < 0) := by omega
 have hne : ¬ (m = 0) := by omega
 have hmz : ¬ (m * inf.size = 0) := by
  intro h
  rcases Nat.mul_eq_zero.1 h with h | h <;> omega
 have hbi : ¬ (281474976710656 < (m : Int) * (inf.bytes : Int)) := by
  have : ((m * inf.bytes : Nat) : Int) ≤ 140737488355328 := by omega
  rw [Int.natCast_mul] at this
  omega
 have hfit := growslice_fits (need := m) (old := 0) (bytes := inf.bytes) h0 hb
 have h48' : ¬ (281474976710656 < Builtin.nextslicecap m 0 * inf.bytes) := by omega
 have h63' : ¬ (9223372036854775807 < (m : Int)) := by omega
 cases A <;> simp [loadCells, loadCellsFrom, Builtin.append_, run_underlying ht, run_underlying hti, sizeOf, typeInfo, zeroValue, hi, hz, hw, hn0, hbi, hne, hmz, h48', h63', Question.forced, newRow, grownCap, Builtin.firstCells, asInt, asIntOf]
theorem aops_growz {K : Post} {s : St} {l : List Oper} {k : Nat} {o : Oper} {r : List Oper} {t ti : TypeId} {i ie ii : TI} {kk : IntKind} {x y : Operand} {d m : Nat} {ob : Obj} (hT : ∀ t i, T t = some i → TF P t i) (hl : l.drop k = o :: r)
  (ho : o.op = .call { callee := .builtin .append, args := #[x, y], argTypes := #[t, ti] }) (hg : o.guard = none) (hd : o.dst = some d) (hdn : Nat.ble (d + 1) s.n = true)
  (hi : T t = some i) (hik : i.kind = .slice) (hie : T i.elem = some ie) (hii : T ti = some ii) (hiik : ii.kind = .int kk)
  (hx : s.raw x = some (.one .nils)) (hy : s.raw y = some (.one (.int .i64 (m : Int)))) (hm : 0 < m) (hb : m * ie.bytes ≤ 140737488355328) (h63 : m ≤ 9223372036854775807)
  (hob : zeroObj ie m = some ob) (hzf : zeroFits ie = true) (hszf : szFits ie = true) (hsz : Nat.ble 1 ie.sz = true)
  (hk : AOps P l (k + 1) K ⟨s.n, ins d (.one (.rw (100 + d) 0 m)) (mapV (clrA (Nat.beq (100 + d))) s.tm), ins (100 + d) (clrO (Nat.beq (100 + d)) ob) (mapV (clrO (Nat.beq (100 + d))) s.hp)⟩) : AOps P l k K s := ⟨fun M0 M a he hr => by
 have hdr : l.drop (k + 1) = r := by
  have h1 : (l.drop k).drop 1 = r := by rw [hl]; rfl
  rwa [List.drop_drop] at h1
 rw [hl]
 unfold wpList
 have hM := hr.ok
 have hF := hT _ _ hie
 have hu := kind_slice (hT _ _ hi) hik
 have hui := kind_int (hT _ _ hii) hiik
 have hA : _ = Value.slice none 0 0 := raw_sound hr hx
 have hyv := VR_int (raw_sound hr hy)
 obtain ⟨hlen, hsz', hcell⟩ := zeroObj_ok (M := M) hob hzf
 obtain ⟨inf, z, g1, g2, g3, g4, g5, g6⟩ := zero_len (M := M) hF
 have hieq : ie.sz = ie.zero.length := Nat.eq_of_beq_eq_true hszf
 have hs1 := Nat.le_of_ble_eq_true hsz
 have hrun0 := run_app_zeros (P := P) (w := M.w) (ty := o.type) hu hui g1 g4 (A := none) hm (by omega) h63 (by rw [g3]; exact hb)
 have hgc := grownCap_ge M.w m 0 i.elem
 have hgm := grownCap_le_maxLen M.w m 0 i.elem (by simp only [maxLen]; omega)
 generalize hcap : grownCap M.w m 0 i.elem = cap at *
 have hcz : (Builtin.zeroCells z.cells m ++ Builtin.zeroCells z.cells (cap - m)).size = cap * ie.zero.length := by
  rw [Array.size_append, size_zeroCells, size_zeroCells, g5, ← Nat.add_mul]
  congr 1
  omega
 obtain ⟨hok, hext⟩ := alloc_bind hM (100 + d) ob (Builtin.zeroCells z.cells m ++ Builtin.zeroCells z.cells (cap - m)) i.elem M.w.drew (zeroObj_plain hob) rfl rfl rfl rfl (Nat.le_succ _)
  (by rw [hlen, hsz', hcz]; exact Nat.mul_le_mul_right _ (by omega)) (fun i hi j hj => by
   rw [hlen] at hi
   rw [hsz'] at hj ⊢
   have hidx : i * ie.zero.length + j < m * ie.zero.length := by
    have h4 : (i + 1) * ie.zero.length ≤ m * ie.zero.length := Nat.mul_le_mul_right _ (by omega)
    rw [Nat.add_mul, Nat.one_mul] at h4
    omega
   obtain ⟨u, hu1, hu2⟩ := g6.2 j _ (List.getElem?_eq_getElem hj)
   have hmod : (i * ie.zero.length + j) % z.cells.size = j := by rw [g5, Nat.mul_comm, Nat.mul_add_mod]; exact Nat.mod_eq_of_lt hj
   refine ⟨u, ?_, VR_oneCell hu2, hcell i j _ hi (List.getElem?_eq_getElem hj) u hu2⟩
   rw [Array.getElem?_append_left (by rw [size_zeroCells, g5]; exact hidx)]
   have hjz : j < z.cells.size := by omega
   have hzc : z.cells[j]! = u := by
    rw [getElem!_pos z.cells j hjz]
    rw [Array.getElem?_eq_getElem hjz] at hu1
    exact Option.some.inj hu1
   unfold Builtin.zeroCells
   rw [Array.getElem?_map, Array.getElem?_range, if_pos (by rw [g5]; exact hidx)]
   simp only [Option.map_some, hmod, hzc])
 have hrun : (execOp a.eval o).run P M.w = .ok (.value (.slice (some ⟨M.w.heap.size, 0, none⟩) m cap)) (M.w.drew.alloc (.cells (Builtin.zeroCells z.cells m ++ Builtin.zeroCells z.cells (cap - m)) i.elem)) := by
  simp only [execOp, ho, resolve, Sem.run_bind, Sem.run_pure, Result.andThen_ok, invoke, builtin, List.map_toArray, List.map_cons, List.map_nil, hA, hyv, hrun0]
 rw [if_pos (by simp [Region.wanted, hg])]
 refine .inl ?_
 generalize hM' : (⟨fun x => if x = (100 + d, none) then some (M.w.heap.size, 0) else M.μ x, ins (100 + d) (clrO (Nat.beq (100 + d)) ob) (mapV (clrO (Nat.beq (100 + d))) M.H), M.w.drew.alloc (.cells (Builtin.zeroCells z.cells m ++ Builtin.zeroCells z.cells (cap - m)) i.elem), M.free⟩ : Mem) = M' at hok hext
 have hH' : M'.H = ins (100 + d) (clrO (Nat.beq (100 + d)) ob) (mapV (clrO (Nat.beq (100 + d))) M.H) := by rw [← hM']
 have hw' : M'.w = M.w.drew.alloc (.cells (Builtin.zeroCells z.cells m ++ Builtin.zeroCells z.cells (cap - m)) i.elem) := by rw [← hM']
 have hμ' : M'.μ (100 + d, none) = some (M.w.heap.size, 0) := by rw [← hM']; exact if_pos rfl
 have hrel := hr.step hH' hok hext
 have hvr : AVR M' (.one (.rw (100 + d) 0 m)) (.slice (some ⟨M.w.heap.size, 0, none⟩) m cap) := ⟨clrO (Nat.beq (100 + d)) ob, by rw [hH']; exact lk_ins_self _ _ _, by rw [clrO_len, hlen]; omega,
  .inr ⟨M.w.heap.size, 0, 0, cap, hμ', rfl, by omega, hgm, by omega, _, i.elem, by rw [hw']; exact heap_alloc_new M.w.drew _, by rw [clrO_sz, hcz, hsz', Nat.zero_add, Nat.zero_add]; exact Nat.le_refl _⟩⟩
 have hput : putD o.dst (.one (.rw (100 + d) 0 m)) s.n (mapV (clrA (Nat.beq (100 + d))) s.tm) = some (ins d (.one (.rw (100 + d) 0 m)) (mapV (clrA (Nat.beq (100 + d))) s.tm)) := by
  rw [hd]; simp only [putD, hdn, cond_true]
 rw [hr.hp] at hrel
 have hgo := hk.run M0 M' _ (he.trans (hext.mono (fun x hx => by have := Nat.eq_of_beq_eq_true hx; subst this; exact Nat.ble_eq_true_of_le (by omega)))) (hrel.put hput hvr)
 rw [hdr] at hgo
 unfold Oper.wp
 rw [hrun, ← hw']
 exact hgo⟩
end
end Go.Ab
namespace Go.Ab
open Go
def bindsOf : List Edge → List Nat
 | [] => []
 | e :: r => cond (Region.binds .any e) (e.on :: bindsOf r) (bindsOf r)
theorem mem_bindsOf {j : Nat} : ∀ {l : List Edge}, j ∈ bindsOf l ↔ ∃ e ∈ l, Region.binds .any e = true ∧ e.on = j
 | [] => by simp [bindsOf]
 | e :: r => by
  unfold bindsOf
  cases hb : Region.binds .any e
  ·simp only [cond_false, mem_bindsOf (l := r), List.mem_cons, exists_eq_or_imp, hb, Bool.false_eq_true, false_and, false_or]
  ·simp only [cond_true, List.mem_cons, mem_bindsOf (l := r), exists_eq_or_imp, hb, true_and]
   constructor
   ·rintro (h | h)
    ·exact .inl h.symm
    ·exact .inr h
   ·rintro (h | h)
    ·exact .inl h.symm
    ·exact .inr h
def usesOf (l : List Oper) (o : Oper) : List Nat :=
 (match o.guard with | some (j, _) => (match (l.toArray[j]?).bind (·.dst) with | some t => [t] | none => []) | none => []) ++ tmpsOf o.op.operands.toList
abbrev Vals := List (Nat × (Nat × AV))
def depVal (vals : Vals) : List Nat → Nat → Option AV
 | [], _ => none
 | j :: r, t => (match look j vals with | some (d, v) => cond (Nat.beq d t) (some v) (depVal vals r t) | none => depVal vals r t)
def pickSlots (tm : List (Nat × AV)) (vals : Vals) (deps : List Nat) : List Nat → List (Nat × AV)
 | [] => []
 | t :: r => (match depVal vals deps t with
  | some v => ins t v (pickSlots tm vals deps r)
  | none => (match look t tm with | some v => ins t v (pickSlots tm vals deps r) | none => pickSlots tm vals deps r))
def wrapG (gd : Option (Nat × Bool)) (g : Bool) (v : AV) : AV := match gd with | none => v | some _ => .whn g v
def wrapC (gd : Option (Nat × Bool)) (g : Bool) (cs : List Prop) : List Prop := match gd with | none => cs | some _ => whnAll g cs
theorem wrapC_true {gd : Option (Nat × Bool)} {cs : List Prop} (h : AllP (wrapC gd true cs)) : AllP cs := by
 cases gd with
 | none => exact h
 | some q => exact whnAll_true rfl h
def insAll : Vals → List (Nat × AV) → List (Nat × AV)
 | [], tm => tm
 | (_, (d, v)) :: r, tm => ins d v (insAll r tm)
def pairOk (l : List Oper) (i : Nat) (o : Oper) : Nat → List Oper → Bool
 | _, [] => true
 | j, q :: r => (Nat.beq i j ||
   (match q.dst with
   | some d => (!(hasN d (usesOf l o)) || hasN j (bindsOf o.after.toList) || hasN i (bindsOf q.after.toList)) && (match o.dst with | some e => !(Nat.beq d e) | none => false)
   | none => false)) && pairOk l i o (j + 1) r
section
variable {P : Program} {T : Nat → Option TI} {S s : St}
variable {v : AV} {g : Bool}
theorem Rel.sub {M : Mem} {a : Act} (hr : Rel M s a) (hn : S.n = s.n) (hp : S.hp = s.hp) (h : ∀ t x, look t S.tm = some x → look t s.tm = some x) : Rel M S a :=
 ⟨by rw [hp]; exact hr.hp, hr.ok, hr.defers, by rw [hn]; exact hr.size, fun d v hd => hr.tm d v (h d v hd)⟩
theorem raw_mono (h : ∀ t x, look t S.tm = some x → look t s.tm = some x) {x : Operand} (hx : S.raw x = some v) : s.raw x = some v := by
 cases x with
 | tmp t => exact h t v hx
 | const c => exact hx
 | func f => exact hx
 | global g => exact hx
theorem ev_mono (h : ∀ t x, look t S.tm = some x → look t s.tm = some x) {ts : List Nat} {x : Operand} (hx : S.ev g ts x = some v) : s.ev g ts x = some v := by
 unfold St.ev at hx ⊢
 cases hS : S.raw x with
 | none => rw [hS] at hx; cases hx
 | some w => rw [hS] at hx; rw [raw_mono h hS]; exact hx
theorem ev_there {ts : List Nat} {t : Nat} (hx : S.ev g ts (.tmp t) = some v) : ∃ w, look t S.tm = some w := by
 unfold St.ev at hx
 cases hS : S.raw (.tmp t) with
 | none => rw [hS] at hx; cases hx
 | some w => exact ⟨w, hS⟩
theorem rawL_mono {e1 e2 : Operand → Option AV} (h : ∀ x v, e1 x = some v → e2 x = some v) : ∀ {xs : List Operand} {vs : List AV}, rawL e1 xs = some vs → rawL e2 xs = some vs
 | [], _, hx => hx
 | x :: r, vs, hx => by
  unfold rawL at hx ⊢
  split at hx
  ·rename_i v vs' h1 h2
   rw [h _ _ h1, rawL_mono h h2]
   exact hx
  ·cases hx
theorem rawL_there {e : Operand → Option AV} : ∀ {xs : List Operand} {vs : List AV}, rawL e xs = some vs → ∀ x ∈ xs, ∃ v, e x = some v
 | [], _, _, x, hx => by cases hx
 | y :: r, vs, h, x, hx => by
  unfold rawL at h
  split at h
  ·rename_i v vs' h1 h2
   rcases List.mem_cons.1 hx with rfl | hx
   ·exact ⟨v, h1⟩
   ·exact rawL_there h2 x hx
  ·cases h
theorem mem_tmpsOf {t : Nat} : ∀ {xs : List Operand}, t ∈ tmpsOf xs → .tmp t ∈ xs
 | [], h => by cases h
 | x :: r, h => by
  cases x with
  | tmp u =>
   rcases List.mem_cons.1 h with rfl | h
   ·exact List.mem_cons_self
   ·exact List.mem_cons_of_mem _ (mem_tmpsOf h)
  | const c => exact List.mem_cons_of_mem _ (mem_tmpsOf h)
  | func c => exact List.mem_cons_of_mem _ (mem_tmpsOf h)
  | global c => exact List.mem_cons_of_mem _ (mem_tmpsOf h)
theorem owed_eq (h : ∀ t x, look t S.tm = some x → look t s.tm = some x) (g : Bool) : ∀ (ts : List Nat), (∀ t ∈ ts, ∃ w, look t S.tm = some w) → S.owed g ts = s.owed g ts
 | [], _ => rfl
 | t :: r, ht => by
  obtain ⟨w, hw⟩ := ht t List.mem_cons_self
  unfold St.owed
  rw [hw, h _ _ hw, owed_eq h g r (fun t' h' => ht t' (List.mem_cons_of_mem _ h'))]
theorem guardOf_mono (h : ∀ t x, look t S.tm = some x → look t s.tm = some x) {ops : Array Oper} {gd : Option (Nat × Bool)} (hg : guardOf ops S gd = some g) : guardOf ops s gd = some g := by
 unfold guardOf at hg ⊢
 split at hg
 ·exact hg
 ·split at hg
  ·split at hg
   ·rename_i v hv
    rw [h _ _ hv]
    exact hg
   ·cases hg
  ·cases hg
theorem preCall_mono (h : ∀ t x, look t S.tm = some x → look t s.tm = some x) (hp : S.hp = s.hp) {lent : Bool} {l : List Oper} {k : Nat} {p : Pre} (hpre : preCall [] lent l k S = some p) : preCall [] lent l k s = some p := by
 unfold preCall at hpre ⊢
 split at hpre
 ·split at hpre
  ·rename_i g c hg hop
   rw [guardOf_mono h hg, hop]
   simp only
   split at hpre
   ·rename_i x hx
    split at hpre
    ·rename_i f caps avs hh e1 e2 e3
     rw [ev_mono h e1, rawL_mono (fun _ _ => ev_mono h) e2, ← hp, e3]
     simp only
     rw [← hpre]
     have : S.owed g (tmpsOf (x :: c.args.toList)) = s.owed g (tmpsOf (x :: c.args.toList)) := owed_eq h g _ fun t ht => by
      rcases List.mem_cons.1 (mem_tmpsOf ht) with hxt | hxt
      ·subst hxt; exact ev_there e1
      ·obtain ⟨v, hv⟩ := rawL_there e2 _ hxt
       exact ev_there hv
     rw [this]
    ·cases hpre
   ·cases hpre
  ·cases hpre
 ·cases hpre
end
variable {v : AV} {t : Nat}
variable {vals : Vals}
theorem pick_at {tm : List (Nat × AV)} {deps : List Nat} : ∀ {us : List Nat}, look t (pickSlots tm vals deps us) = some v → t ∈ us ∧ (depVal vals deps t = some v ∨ (depVal vals deps t = none ∧ look t tm = some v))
 | [], h => by cases h
 | u :: r, h => by
  unfold pickSlots at h
  split at h
  ·rename_i w hw
   rw [look_ins] at h
   by_cases htu : t = u
   ·rw [if_pos htu] at h
    cases h
    subst htu
    exact ⟨List.mem_cons_self, .inl hw⟩
   ·rw [if_neg htu] at h
    obtain ⟨h1, h2⟩ := pick_at h
    exact ⟨List.mem_cons_of_mem _ h1, h2⟩
  ·rename_i hw
   split at h
   ·rename_i w hw2
    rw [look_ins] at h
    by_cases htu : t = u
    ·rw [if_pos htu] at h
     cases h
     subst htu
     exact ⟨List.mem_cons_self, .inr ⟨hw, hw2⟩⟩
    ·rw [if_neg htu] at h
     obtain ⟨h1, h2⟩ := pick_at h
     exact ⟨List.mem_cons_of_mem _ h1, h2⟩
   ·obtain ⟨h1, h2⟩ := pick_at h
    exact ⟨List.mem_cons_of_mem _ h1, h2⟩
theorem depVal_some : ∀ {deps : List Nat}, depVal vals deps t = some v → ∃ j ∈ deps, look j vals = some (t, v)
 | [], h => by cases h
 | j :: r, h => by
  unfold depVal at h
  split at h
  ·rename_i d w hj
   cases hb : Nat.beq d t
   ·rw [hb] at h
    obtain ⟨k, hk, hv⟩ := depVal_some h
    exact ⟨k, List.mem_cons_of_mem _ hk, hv⟩
   ·rw [hb] at h
    simp only [cond_true, Option.some.injEq] at h
    subst h
    have := Nat.eq_of_beq_eq_true hb
    subst this
    exact ⟨j, List.mem_cons_self, hj⟩
  ·obtain ⟨k, hk, hv⟩ := depVal_some h
   exact ⟨k, List.mem_cons_of_mem _ hk, hv⟩
theorem depVal_none : ∀ {deps : List Nat}, depVal vals deps t = none → ∀ j ∈ deps, ∀ d v, look j vals = some (d, v) → d ≠ t
 | [], _, j, hj => by cases hj
 | k :: r, h, j, hj => by
  unfold depVal at h
  intro d v hjv
  split at h
  ·rename_i d' w hk
   cases hb : Nat.beq d' t
   ·rw [hb] at h
    rcases List.mem_cons.1 hj with rfl | hj
    ·rw [hk] at hjv
     cases hjv
     rintro rfl
     rw [beq_self] at hb; cases hb
    ·exact depVal_none h j hj d v hjv
   ·rw [hb] at h; cases h
  ·rename_i hk
   rcases List.mem_cons.1 hj with rfl | hj
   ·rw [hk] at hjv; cases hjv
   ·exact depVal_none h j hj d v hjv
def KeysOk : Vals → Prop
 | [] => True
 | (k, _) :: r => k = r.length ∧ KeysOk r
theorem KeysOk.lt : ∀ {vs : Vals}, KeysOk vs → ∀ {j : Nat} {x : Nat × AV}, look j vs = some x → j < vs.length
 | [], _, _, _, h => by cases h
 | (k, y) :: r, hk, j, x, h => by
  unfold look at h
  cases hb : Nat.beq k j
  ·rw [hb] at h
   have := KeysOk.lt hk.2 h
   simp only [List.length_cons]; omega
  ·have := Nat.eq_of_beq_eq_true hb
   have := hk.1
   simp only [List.length_cons]; omega
theorem KeysOk.up {vs : Vals} (hk : KeysOk vs) {y : Nat × AV} {j : Nat} {x : Nat × AV} (h : look j vs = some x) : look j ((vs.length, y) :: vs) = some x := by
 unfold look
 have := hk.lt h
 rw [beq_ne (show vs.length ≠ j by omega)]
 exact h
theorem insAll_at {tm : List (Nat × AV)} : ∀ {vs : Vals}, KeysOk vs → look t (insAll vs tm) = some v → (∃ j, look j vs = some (t, v)) ∨ (look t tm = some v ∧ ∀ j d w, look j vs = some (d, w) → d ≠ t)
 | [], _, h => .inr ⟨h, fun j d w hj => by cases hj⟩
 | (k, (d, w)) :: r, hk, h => by
  unfold insAll at h
  rw [look_ins] at h
  obtain ⟨hk1, hk2⟩ := hk
  subst hk1
  by_cases htd : t = d
  ·rw [if_pos htd] at h
   cases h
   subst htd
   refine .inl ⟨r.length, ?_⟩
   unfold look; rw [beq_self]; rfl
  ·rw [if_neg htd] at h
   rcases insAll_at hk2 h with ⟨j, hj⟩ | ⟨h1, h2⟩
   ·exact .inl ⟨j, hk2.up hj⟩
   ·refine .inr ⟨h1, fun j d' w' hj => ?_⟩
    unfold look at hj
    cases hb : Nat.beq r.length j
    ·rw [hb] at hj; exact h2 j d' w' hj
    ·rw [hb] at hj
     simp only [cond_true, Option.some.injEq, Prod.mk.injEq] at hj
     obtain ⟨rfl, _⟩ := hj
     exact fun h => htd h.symm
theorem hasN_mem : ∀ {l : List Nat}, hasN t l = true ↔ t ∈ l
 | [] => by simp [hasN]
 | u :: r => by
  unfold hasN
  cases hb : Nat.beq u t
  ·have hne : u ≠ t := by rintro rfl; rw [beq_self] at hb; cases hb
   simp only [cond_false, hasN_mem (l := r), List.mem_cons]
   exact ⟨fun h => .inr h, fun h => h.resolve_left (fun e => hne e.symm)⟩
  ·have := Nat.eq_of_beq_eq_true hb
   subst this
   simp
theorem pairOk_at {l : List Oper} {i : Nat} {o : Oper} : ∀ {rest : List Oper} {j0 : Nat}, pairOk l i o j0 rest = true → ∀ k q, rest[k]? = some q → i ≠ j0 + k → ∃ d, q.dst = some d ∧ (d ∈ usesOf l o → (j0 + k) ∈ bindsOf o.after.toList ∨ i ∈ bindsOf q.after.toList) ∧ ∀ e, o.dst = some e → d ≠ e
 | [], _, _, k, q, hk, _ => by simp at hk
 | p :: r, j0, h, k, q, hk, hne => by
  unfold pairOk at h
  simp only [Bool.and_eq_true] at h
  obtain ⟨h1, h2⟩ := h
  cases k with
  | zero =>
   simp only [List.getElem?_cons_zero, Option.some.injEq] at hk
   subst hk
   rw [beq_ne (by simpa using hne), Bool.false_or] at h1
   split at h1
   ·rename_i d hd
    simp only [Bool.and_eq_true, Bool.or_eq_true, Bool.not_eq_true'] at h1
    obtain ⟨h3, h4⟩ := h1
    refine ⟨d, hd, fun hu => ?_, fun e he => ?_⟩
    ·rcases h3 with (h3 | h3) | h3
     ·rw [hasN_mem.2 hu] at h3; cases h3
     ·exact .inl (hasN_mem.1 h3)
     ·exact .inr (hasN_mem.1 h3)
    ·rw [he] at h4
     simp only [Bool.not_eq_true'] at h4
     rintro rfl
     rw [beq_self] at h4; cases h4
   ·cases h1
  | succ k =>
   have := pairOk_at h2 k q (by simpa using hk) (by omega)
   rw [show j0 + 1 + k = j0 + (k + 1) by omega] at this
   exact this
def left : List Bool → Nat
 | [] => 0
 | b :: r => (cond b 0 1) + left r
theorem left_set : ∀ {l : List Bool} {i : Nat}, l[i]? = some false → left (l.set i true) + 1 = left l
 | [], _, h => by simp at h
 | b :: r, 0, h => by
  simp only [List.getElem?_cons_zero, Option.some.injEq] at h
  subst h
  simp only [List.set_cons_zero, left, cond_true, cond_false]; omega
 | b :: r, i + 1, h => by
  have := left_set (l := r) (i := i) (by simpa using h)
  simp only [List.set_cons_succ, left]; omega
theorem left_zero : ∀ {l : List Bool}, left l = 0 → ∀ (i : Nat) (b : Bool), l[i]? = some b → b = true
 | [], _, i, b, h => by simp at h
 | c :: r, h0, i, b, h => by
  simp only [left] at h0
  cases i with
  | zero =>
   simp only [List.getElem?_cons_zero, Option.some.injEq] at h
   subst h
   cases c
   ·simp at h0
   ·rfl
  | succ i => exact left_zero (l := r) (by omega) i b (by simpa using h)
structure CalmS (l : List Oper) (s0 : St) (vs : Vals) (listed : Array Bool) (s : St) : Prop where
 n : s.n = s0.n
 hp : s.hp = s0.hp
 size : listed.size = l.length
 got : ∀ j d v, listed.getD j false = true → look j vs = some (d, v) → look d s.tm = some v
 old : ∀ t, (∀ j d v, listed.getD j false = true → look j vs = some (d, v) → d ≠ t) → look t s.tm = look t s0.tm
 closed : ∀ j o, listed.getD j false = true → l[j]? = some o → ∀ i ∈ bindsOf o.after.toList, listed.getD i false = true
end Go.Ab
namespace Go.Ab
open Go
variable {X Y : Nat → Bool} {v : V1} {H H' : Heap} {a : AV} {t : TypeId} {T : Nat → Option TI}
def refsV (X : Nat → Bool) : V1 → Bool
 | .rw id _ _ => !(X id)
 | .ptr id _ _ => !(X id)
 | .mrow id _ _ => !(X id)
 | .mptr id _ _ => !(X id)
 | .fn _ caps => caps.all fun c => match c with | .rw id _ _ => !(X id) | .ptr id _ _ => !(X id) | .mrow id _ _ => !(X id) | .mptr id _ _ => !(X id) | _ => true
 | _ => true
def refsA (X : Nat → Bool) : AV → Bool
 | .one v => refsV X v
 | .agg vs => vs.all (refsV X)
 | .tup es => es.all fun e => e.2.all (refsV X)
 | .whn _ v => refsA X v
def refsO (X : Nat → Bool) : Obj → Bool
 | .box _ _ vs => vs.all (refsV X)
 | .mat id _ => !(X id)
 | .tail pre _ => pre.all (refsV X)
 | _ => true
theorem refs1_clr (hY : ∀ z, Y z = true → X z = true) {c : V1} (h : (match c with | .rw id _ _ => !(X id) | .ptr id _ _ => !(X id) | .mrow id _ _ => !(X id) | .mptr id _ _ => !(X id) | _ => true) = true) : clr1 Y c = c := by
 cases c <;> first | rfl | skip
 case rw id a b =>
  simp only [Bool.not_eq_true'] at h
  have : Y id = false := by cases hy : Y id; rfl; rw [hY id hy] at h; cases h
  simp [clr1, this]
 case ptr id a b =>
  simp only [Bool.not_eq_true'] at h
  have : Y id = false := by cases hy : Y id; rfl; rw [hY id hy] at h; cases h
  simp [clr1, this]
 case mrow id a b =>
  simp only [Bool.not_eq_true'] at h
  have : Y id = false := by cases hy : Y id; rfl; rw [hY id hy] at h; cases h
  simp [clr1, this]
 case mptr id a b =>
  simp only [Bool.not_eq_true'] at h
  have : Y id = false := by cases hy : Y id; rfl; rw [hY id hy] at h; cases h
  simp [clr1, this]
theorem refsV_clr (hY : ∀ z, Y z = true → X z = true) (h : refsV X v = true) : clrV Y v = v := by
 cases v <;> first | rfl | skip
 case rw id a b => exact refs1_clr (c := .rw id a b) hY h
 case ptr id a b => exact refs1_clr (c := .ptr id a b) hY h
 case mrow id a b => exact refs1_clr (c := .mrow id a b) hY h
 case mptr id a b => exact refs1_clr (c := .mptr id a b) hY h
 case fn f caps =>
  simp only [clrV]
  congr 1
  have h' := List.all_eq_true.1 h
  exact (List.map_congr_left fun c hc => refs1_clr hY (h' c hc)).trans (List.map_id _)
theorem refsVs_clr (hY : ∀ z, Y z = true → X z = true) {vs : List V1} (h : vs.all (refsV X) = true) : vs.map (clrV Y) = vs := by
 have h' := List.all_eq_true.1 h
 exact (List.map_congr_left fun c hc => refsV_clr hY (h' c hc)).trans (List.map_id _)
theorem refsA_clr (hY : ∀ z, Y z = true → X z = true) : ∀ {v : AV}, refsA X v = true → clrA Y v = v
 | .one v, h => by simp only [clrA]; rw [refsV_clr hY h]
 | .agg vs, h => by simp only [clrA]; rw [refsVs_clr hY h]
 | .tup es, h => by
  simp only [clrA]
  congr 1
  have h' := List.all_eq_true.1 h
  refine (List.map_congr_left fun e he => ?_).trans (List.map_id _)
  rw [refsVs_clr hY (h' e he)]; rfl
 | .whn g v, h => by simp only [clrA]; rw [refsA_clr hY (v := v) h]
theorem refsO_clr (hY : ∀ z, Y z = true → X z = true) {o : Obj} (h : refsO X o = true) : clrO Y o = o := by
 cases o with
 | box n sz vs => simp only [clrO]; rw [refsVs_clr hY h]
 | tail pre xs => simp only [clrO]; rw [refsVs_clr hY h]
 | flat c => rfl
 | recs c => rfl
 | mat id xss =>
  have h' : (!(X id)) = true := h
  simp only [Bool.not_eq_true'] at h'
  have : Y id = false := by cases hy : Y id; rfl; rw [hY id hy] at h'; cases h'
  simp [clrO, this]
theorem Rel.alike {M : Mem} {s s2 : St} {a : Act} (hr : Rel M s a) (hn : s2.n = s.n) (hp : ∀ z, look z s2.hp = look z s.hp) (h : ∀ t x, look t s2.tm = some x → look t s.tm = some x) :
  ∃ M', Rel M' s2 a ∧ M'.w = M.w ∧ Ext big M M' := by
 have hM := hr.ok
 let M' : Mem := ⟨M.μ, s2.hp, M.w, M.free⟩
 have hlk : ∀ z : Key, lk M'.H z = lk M.H z := fun z => lk_congr (by show look z.1 s2.hp = _; rw [hp, hr.hp])
 have hlive : ∀ b, M'.live b → M.live b := by
  rintro b ⟨x, o, p, h1, h2⟩
  exact ⟨x, o, p, by rw [← hlk]; exact h1, h2⟩
 have hext : Ext noX M M' := ⟨⟨rfl, rfl, rfl, Nat.le_refl _, Nat.le_refl _, fun b _ hl => ⟨rfl, fun h => hl (hlive b h)⟩, fun b h => h, fun b h => .inl h⟩,
  fun x o _ hx => ⟨o, by rw [hlk]; exact hx, rfl, Nat.le_refl _, rfl, fun b p cur e _ hc => ⟨cur, hc, rfl⟩⟩⟩
 refine ⟨M', ⟨rfl, ?_, hr.defers, by rw [hn]; exact hr.size, fun d v hd => ?_⟩, rfl, hext.mono (fun x hx => by cases hx)⟩
 ·refine ⟨fun x id xss h => hM.named x id xss (by rw [hr.hp, ← hp]; exact h), fun b hb => ⟨(hM.fr b hb).1, fun h => (hM.fr b hb).2 (hlive b h)⟩, fun x y o1 o2 b p q hx hy hmx hmy => ?_, fun x o1 hx hm => ?_, fun x o1 b p hx hm => ?_⟩
  ·rw [hlk] at hx hy; exact hM.inj x y o1 o2 b p q hx hy hmx hmy
  ·rw [hlk] at hx; exact hM.none_ x o1 hx hm
  ·rw [hlk] at hx
   obtain ⟨cur, e, g1, g2, g3⟩ := hM.obj x o1 b p hx hm
   refine ⟨cur, e, g1, g2, fun i hi j hj => ?_⟩
   obtain ⟨u, k1, k2, k3⟩ := g3 i hi j hj
   exact ⟨u, k1, k2, VR_ext0 hext k3⟩
 ·obtain ⟨u, hu, hv⟩ := hr.tm d v (h d v hd)
  exact ⟨u, hu, AVR_ext0 hext hv⟩
def HSub (H H' : Heap) : Prop := ∀ z o, look z H = some o → look z H' = some o
theorem ptrInto_sub (h : HSub H H') {r} (hp : ptrInto H v = some r) : ptrInto H' v = some r := by
 cases v <;> simp only [ptrInto] at hp ⊢ <;> first | exact hp | skip
 all_goals
  split at hp
  ·rename_i ho; rw [h _ _ ho]; exact hp
  ·cases hp
theorem stLoad_sub (h : HSub H H') {r} (hl : stLoad T H t a = some r) : stLoad T H' t a = some r := by
 unfold stLoad at hl ⊢
 split at hl
 ·split at hl
  ·rename_i ti own n z f i j hti hin
   rw [hti, ptrInto_sub h hin]
   exact hl
  ·cases hl
 ·cases hl
theorem stIndexAddr_sub (h : HSub H H') {b : AV} {r} (hl : stIndexAddr T H t a b = some r) : stIndexAddr T H' t a b = some r := by
 unfold stIndexAddr at hl ⊢
 split at hl
 ·split at hl
  ·split at hl
   ·split at hl
    ·split at hl
     ·rename_i ho; rw [h _ _ ho]; exact hl
     ·cases hl
    ·exact hl
    ·exact hl
    ·exact hl
    ·cases hl
   ·cases hl
  ·split at hl
   ·split at hl
    ·split at hl
     ·rename_i ho; rw [h _ _ ho]; exact hl
     ·cases hl
    ·exact hl
   ·cases hl
  ·cases hl
 ·cases hl
theorem sliceSz_sub (h : HSub H H') {e : Nat} (hs : sliceSz H e v = true) : sliceSz H' e v = true := by
 cases v <;> simp only [sliceSz] at hs ⊢ <;> first | exact hs | skip
 split at hs
 ·rename_i o ho; rw [h _ _ ho]; exact hs
 ·cases hs
theorem cond_sub {α : Type} {b b' : Bool} {x : Option α} {r : α} (hb : b = true → b' = true) (h : cond b x none = some r) : cond b' x none = some r := by
 cases b
 ·cases h
 ·rw [hb rfl]; exact h
theorem stSlice_sub (h : HSub H H') {ev : Operand → Option AV} {lo hi mx : Option Operand} {r} (hl : stSlice T H ev t lo hi mx a = some r) : stSlice T H' ev t lo hi mx a = some r := by
 unfold stSlice at hl ⊢
 split at hl
 ·split at hl
  ·split at hl
   ·split at hl
    ·split at hl
     ·exact cond_sub (sliceSz_sub h) hl
     ·cases hl
    ·cases hl
   ·cases hl
  ·split at hl
   ·split at hl
    ·rename_i ho; rw [h _ _ ho]; exact hl
    ·cases hl
   ·cases hl
  ·exact hl
  ·cases hl
 ·cases hl
section
variable {P : Program} {T : Nat → Option TI}
variable {op : Op} {H H' : Heap} {tm : List (Nat × AV)} {n : Nat} {l : List Oper} {lent : Bool}
theorem stepPure_sub (h : HSub H H') {ev : Operand → Option AV} {r} (hl : stepPure T H ev op = some r) : stepPure T H' ev op = some r := by
 cases op <;> simp only [stepPure] at hl ⊢ <;> first | exact hl | skip
 case indexAddr t x i =>
  split at hl
  ·exact stIndexAddr_sub h hl
  ·cases hl
 case slice t x lo hi mx =>
  split at hl
  ·exact stSlice_sub h hl
  ·cases hl
theorem owed_hp (H' : Heap) (g : Bool) : ∀ ts : List Nat, (⟨n, tm, H⟩ : St).owed g ts = (⟨n, tm, H'⟩ : St).owed g ts
 | [] => rfl
 | t :: r => by
  unfold St.owed
  rw [owed_hp H' g r]
theorem stepRd_sub (h : HSub H H') {g : Bool} {r} (hl : stepRd T ⟨n, tm, H⟩ g op = some r) : stepRd T ⟨n, tm, H'⟩ g op = some r := by
 unfold stepRd at hl ⊢
 split at hl
 ·exact hl
 ·rename_i t x
  rw [← owed_hp (n := n) (tm := tm) (H := H) H' g (tmpsOf [x])]
  show (match (⟨n, tm, H⟩ : St).ev g (tmpsOf [x]) x with | some v => (match stLoad T H' t v with | some (cs, u) => some ((⟨n, tm, H⟩ : St).owed g (tmpsOf [x]) ++ cs, u) | none => none) | none => none) = some r
  split at hl
  ·rename_i v hv
   split at hl
   ·rename_i cs u hst
    rw [hv]
    simp only
    rw [stLoad_sub h hst]
    exact hl
   ·cases hl
  ·cases hl
 ·rename_i op1 h1 h2
  split at hl
  ·rename_i cs u hst
   have := stepPure_sub (T := T) h hst
   rw [← owed_hp (n := n) (tm := tm) (H := H) H' g (tmpsOf _)]
   have e : ∀ ts, (⟨n, tm, H'⟩ : St).ev g ts = (⟨n, tm, H⟩ : St).ev g ts := fun _ => rfl
   rw [e]
   simp only at this ⊢
   rw [this]
   exact hl
  ·cases hl
def freshOp : Op → Bool
 | .alloc _ => true
 | .box _ _ => true
 | .makeSlice _ _ _ => true
 | .buildSlice _ _ _ => true
 | _ => false
theorem stepMem_fresh {ev : Operand → Option AV} {dst : Option Nat} {r : MR} (hf : freshOp op = true) (h : stepMem T H ev dst op = some r) :
  ∃ id o v, r.x = some id ∧ r.val = some v ∧ big id = true ∧ r.hp = ins id o (mapV (clrO (Nat.beq id)) H) ∧ ∀ H', stepMem T H' ev dst op = some ⟨r.cs, some v, ins id o (mapV (clrO (Nat.beq id)) H'), some id⟩ := by
 have hbig : ∀ d, big (100 + d) = true := fun d => Nat.ble_eq_true_of_le (by omega)
 have new : ∀ {d t cells}, stNew T H d t cells = some r → ∃ id o v, r.x = some id ∧ r.val = some v ∧ big id = true ∧ r.hp = ins id o (mapV (clrO (Nat.beq id)) H) ∧ ∀ H', stNew T H' d t cells = some ⟨r.cs, some v, ins id o (mapV (clrO (Nat.beq id)) H'), some id⟩ := by
  intro d t cells h
  unfold stNew at h ⊢
  split at h
  ·split at h
   ·split at h
    ·cases h
     exact ⟨_, _, _, rfl, rfl, hbig d, rfl, fun H' => rfl⟩
    ·cases h
   ·cases h
  ·cases h
 cases op <;> simp only [freshOp] at hf <;> first | (cases hf; done) | skip
 case alloc t =>
  simp only [stepMem] at h ⊢
  split at h
  ·exact new h
  ·cases h
 case box t x =>
  simp only [stepMem] at h ⊢
  split at h
  ·exact new h
  ·cases h
 case makeSlice t l c =>
  simp only [stepMem] at h ⊢
  split at h
  ·rename_i d a b h1 h2
   unfold stMake at h ⊢
   split at h
   ·split at h
    ·split at h
     ·split at h
      ·rename_i o ho
       cases hz : (zeroFits _ && szFits _)
       ·rw [hz] at h; cases h
       ·rw [hz] at h
        simp only [cond_true, Option.some.injEq] at h
        subst h
        exact ⟨_, _, _, rfl, rfl, hbig d, rfl, fun H' => rfl⟩
      ·cases h
     ·cases h
    ·cases h
   ·cases h
  ·cases h
 case buildSlice t n parts =>
  simp only [stepMem] at h ⊢
  split at h
  ·rename_i d
   unfold stBuildSlice at h ⊢
   split at h
   ·split at h
    ·split at h
     ·rename_i cells hc
      cases hz : (Nat.ble (n * _) 16777216 && Nat.ble 1 _ && Nat.beq (litObj _ n cells).sz _ && Nat.beq (litObj _ n cells).len n)
      ·rw [hz] at h; cases h
      ·rw [hz] at h
       simp only [cond_true, Option.some.injEq] at h
       subst h
       exact ⟨_, _, _, rfl, rfl, hbig d, rfl, fun H' => rfl⟩
     ·cases h
    ·cases h
   ·cases h
  ·cases h
def seenV (H : Heap) : V1 → Bool
 | .rw id _ _ => (look id H).isSome
 | .mrow id _ _ => (look id H).isSome
 | .fn _ caps => caps.all fun c => match c with | .rw id _ _ => (look id H).isSome | .mrow id _ _ => (look id H).isSome | _ => true
 | _ => true
def seenA (H : Heap) : AV → Bool
 | .one v => seenV H v
 | .agg vs => vs.all (seenV H)
 | .tup es => es.all fun e => e.2.all (seenV H)
 | .whn _ v => seenA H v
theorem inV_sub (h : HSub H H') (lent : Bool) {v : V1} (hs : (match v with | .rw id _ _ => (look id H).isSome | .mrow id _ _ => (look id H).isSome | _ => true) = true) : inV [] H lent v = inV [] H' lent v := by
 cases v <;> simp only [inV] <;> first | rfl | skip
 case rw id off len =>
  simp only at hs
  cases ho : look id H with
  | none => rw [ho] at hs; cases hs
  | some o => rw [h _ _ ho]
 case mrow id i len =>
  simp only at hs
  cases ho : look id H with
  | none => rw [ho] at hs; cases hs
  | some o => rw [h _ _ ho]
theorem liftV_sub (h : HSub H H') (lent : Bool) {v : V1} (hs : seenV H v = true) : liftV (inV [] H lent) v = liftV (inV [] H' lent) v := by
 cases v <;> first | rfl | skip
 case rw id off len => exact inV_sub h lent (v := .rw id off len) hs
 case mrow id i len => exact inV_sub h lent (v := .mrow id i len) hs
 case fn f caps =>
  simp only [liftV]
  congr 1
  have h' := List.all_eq_true.1 hs
  exact List.map_congr_left fun c hc => inV_sub h lent (h' c hc)
theorem liftVs_sub (h : HSub H H') (lent : Bool) {vs : List V1} (hs : vs.all (seenV H) = true) : vs.map (liftV (inV [] H lent)) = vs.map (liftV (inV [] H' lent)) := by
 have h' := List.all_eq_true.1 hs
 exact List.map_congr_left fun c hc => liftV_sub h lent (h' c hc)
theorem liftA_sub (h : HSub H H') (lent : Bool) : ∀ {v : AV}, seenA H v = true → liftA (inV [] H lent) v = liftA (inV [] H' lent) v
 | .one v, hs => by simp only [liftA]; rw [liftV_sub h lent hs]
 | .agg vs, hs => by simp only [liftA]; rw [liftVs_sub h lent hs]
 | .tup es, hs => by
  simp only [liftA]
  congr 1
  have h' := List.all_eq_true.1 hs
  exact List.map_congr_left fun e he => by rw [liftVs_sub h lent (h' e he)]
 | .whn g v, hs => by simp only [liftA]; rw [liftA_sub h lent (v := v) hs]
def seenCall (l : List Oper) (k : Nat) (s : St) : Bool :=
 match l.drop k with
 | o :: _ =>
  (match guardOf l.toArray s o.guard, o.op with
  | some g, .call c =>
   (match c.callee with
   | .value x =>
    (match s.ev g (tmpsOf (x :: c.args.toList)) x, rawL (s.ev g (tmpsOf (x :: c.args.toList))) c.args.toList with
    | some (.one (.fn _ caps)), some avs => (avs ++ caps.map AV.one).all (seenA s.hp)
    | _, _ => false)
   | _ => false)
  | _, _ => false)
 | [] => false
theorem preCall_sub (h : HSub H H') {k : Nat} {p : Pre} (hpre : preCall [] lent l k ⟨n, tm, H⟩ = some p) (hs : seenCall l k ⟨n, tm, H⟩ = true) : preCall [] lent l k ⟨n, tm, H'⟩ = some p := by
 unfold preCall at hpre ⊢
 unfold seenCall at hs
 split at hpre
 ·rename_i o r hl
  rw [hl] at hs
  simp only at hs
  split at hpre
  ·rename_i g c hg hop
   rw [hg] at hs
   rw [hop] at hs
   simp only at hs
   have hg' : guardOf l.toArray (⟨n, tm, H'⟩ : St) o.guard = some g := hg
   rw [hg', hop]
   simp only
   split at hpre
   ·rename_i x hx
    rw [hx] at hs
    simp only at hs
    split at hpre
    ·rename_i f caps avs hh e1 e2 e3
     rw [e1, e2] at hs
     simp only at hs
     have e1' : (⟨n, tm, H'⟩ : St).ev g (tmpsOf (x :: c.args.toList)) x = some (.one (.fn f caps)) := e1
     have e2' : rawL ((⟨n, tm, H'⟩ : St).ev g (tmpsOf (x :: c.args.toList))) c.args.toList = some avs := e2
     simp only [e1', e2', inH] at e3 ⊢
     rw [← hpre]
     cases e3
     rw [← owed_hp (n := n) (tm := tm) (H := H) H' g (tmpsOf (x :: c.args.toList))]
     congr 2
     have h' := List.all_eq_true.1 hs
     exact (List.map_congr_left fun v hv => liftA_sub h lent (h' v hv)).symm
    ·cases hpre
   ·cases hpre
  ·cases hpre
 ·cases hpre
def newB (lent : Bool) (c : CallI) : Option Heap := outH c.hr lent (outV c.new lent) c.new []
def calmVal2 (P : Program) (T : Nat → Option TI) (tab : Tab) (lent : Bool) (l : List Oper) (i : Nat) (s : St) : Option (List Prop × AV × Heap) :=
 match l.drop i with
 | o :: _ =>
  (match guardOf l.toArray s o.guard with
  | some g =>
   (match stepRd T s g o.op with
   | some (cs, v) => some (wrapC o.guard g cs, wrapG o.guard g v, [])
   | none => cond (freshOp o.op)
    (cond g (match stepMem T s.hp (s.ev true (tmpsOf o.op.operands.toList)) o.dst o.op with
     | some r => (match r.x, r.val with
      | some id, some v => (match look id r.hp with | some ob => some (s.owed true (tmpsOf o.op.operands.toList) ++ r.cs, v, [(id, ob)]) | none => none)
      | _, _ => none)
     | none => none) none)
    (match preCall [] lent l i s, look i tab with
    | some p, some c => cond (seenCall l i s) (match c.new with
     | [] => some ([p.g = true → (AllP p.cs ∧ p.args = c.args ∧ ACall P p.f c.args [] (fun v H => v = c.res ∧ H = []))], wrapG o.guard p.g (liftA (outV [] lent) c.res), [])
     | _ :: _ => cond (p.g && (okR c.new && allBig c.new)) (match newB lent c with
      | some bs => some ([AllP p.cs ∧ p.args = c.args ∧ ACall P p.f c.args [] (fun v H => v = c.res ∧ H = c.hr)], liftA (outV c.new lent) c.res, bs)
      | none => none) none) none
    | _, _ => none))
  | none => none)
 | [] => none
theorem outH_acc {H1 : Heap} {g : V1 → V1} : ∀ {ρ : List (Nat × Nat)} {acc h : Heap} (acc' : Heap), outH H1 lent g ρ acc = some h → ∃ h', outH H1 lent g ρ acc' = some h'
 | [], _, _, acc', _ => ⟨acc', rfl⟩
 | (x, y) :: r, acc, h, acc', e => by
  unfold outH at e ⊢
  split at e
  ·rename_i o h1 e1 e2
   obtain ⟨h2, e3⟩ := outH_acc (ρ := r) acc' e2
   rw [e1, e3]
   simp only
   cases hb : lentOk lent o
   ·rw [hb] at e; cases e
   ·exact ⟨_, rfl⟩
  ·cases e
theorem inH_nil_hin {k : Nat} {s : St} {p : Pre} (hp : preCall [] lent l k s = some p) : p.hin = [] := by
 unfold preCall at hp
 split at hp
 ·split at hp
  ·split at hp
   ·split at hp
    ·rename_i e1 e2 e3
     simp only [inH, Option.some.injEq] at e3
     cases hp
     exact e3.symm
    ·cases hp
   ·cases hp
  ·cases hp
 ·cases hp
theorem clrA_none {X : Nat → Bool} (hX : ∀ z, X z = false) (tm : List (Nat × AV)) : mapV (clrA X) tm = tm := by
 have : X = noX := funext hX
 rw [this]
 exact mapV_id (fun v => clrA_no v) tm
theorem clrO_none {X : Nat → Bool} (hX : ∀ z, X z = false) (o : Option Obj) : o.map (clrO X) = o := by
 have : X = noX := funext hX
 rw [this]
 cases o with
 | none => rfl
 | some o => simp only [Option.map_some, clrO_no]
def bsX (bs : Heap) (z : Nat) : Bool := (look z bs).isSome
structure Behind (d : Nat) (v : AV) (bs : Heap) (s s2 : St) : Prop where
 n : s2.n = s.n
 tm : s2.tm = ins d v (mapV (clrA (bsX bs)) s.tm)
 new : ∀ z o, look z bs = some o → look z s2.hp = some o
 old : ∀ z, look z bs = none → look z s2.hp = (look z s.hp).map (clrO (bsX bs))
theorem calmVal2_sound {tab : Tab} {i d : Nat} {cs : List Prop} {v : AV} {bs : Heap} {o : Oper} {r : List Oper} {S s : St} (hT : ∀ t i, T t = some i → TF P t i) (hl : l.drop i = o :: r) (hd : o.dst = some d) (hdn : Nat.ble (d + 1) s.n = true)
  (h : calmVal2 P T tab lent l i S = some (cs, v, bs)) (hc : AllP cs) (hn : S.n = s.n) (hH : HSub S.hp s.hp) (hsub : ∀ t x, look t S.tm = some x → look t s.tm = some x) {M : Mem} {a : Act} {Kx : Act → World → Prop} {Q : Exit → Act → World → Prop} (hr : Rel M s a)
  (hk : ∀ M' a' s2, Ext big M M' → Rel M' s2 a' → Behind d v bs s s2 → Kx a' M'.w) : wpOp P l.toArray Q i Kx a M.w := by
 obtain ⟨Sn, Stm, SH⟩ := S
 simp only at hn hH hsub
 have hput : ∀ x tm, putD o.dst x s.n tm = some (ins d x tm) := fun x tm => by rw [hd]; simp only [putD, hdn, cond_true]
 have hrS : Rel M ⟨Sn, Stm, s.hp⟩ a := hr.sub hn rfl hsub
 have plain : ∀ x, Behind d x [] s ⟨s.n, ins d x s.tm, s.hp⟩ := fun x => ⟨rfl, (by rw [clrA_none (X := bsX []) (fun z => rfl)]), (fun z o hz => by cases hz), (fun z _ => by rw [clrO_none (X := bsX []) (fun z => rfl)])⟩
 unfold calmVal2 at h
 rw [hl] at h
 simp only at h
 split at h
 ·rename_i g hgo
  have hgo' : guardOf l.toArray (⟨Sn, Stm, s.hp⟩ : St) o.guard = some g := hgo
  have hw := guard_sound hrS hgo'
  split at h
  ·rename_i cs1 v1 hrd
   simp only [Option.some.injEq, Prod.mk.injEq] at h
   obtain ⟨rfl, rfl, rfl⟩ := h
   refine wpOp_of_ok ?_
   unfold OpOk
   rw [hl]
   simp only
   cases hg : g
   ·rw [if_neg (by rw [hw, hg]; decide)]
    have hgd : ∃ q, o.guard = some q := by
     cases hq : o.guard with
     | none => rw [hq] at hgo; simp only [guardOf, Option.some.injEq] at hgo; rw [← hgo] at hg; cases hg
     | some q => exact ⟨q, rfl⟩
    obtain ⟨q, hq⟩ := hgd
    have hv : AVR M (wrapG o.guard g v1) undef := by
     rw [hq, hg]; exact ⟨fun h => (by cases h), fun _ => rfl⟩
    exact hk M _ _ (Ext.refl _ _) (hr.put (hput _ _) hv) (plain _)
   ·rw [if_pos (by rw [hw, hg])]
    refine .inl ?_
    rw [hg] at hc hrd
    obtain ⟨u, hu, huv⟩ := stepRd_sound (P := P) hT rfl hrS (stepRd_sub hH hrd) (wrapC_true hc)
    unfold Oper.wp
    rw [hu]
    have hv : AVR M (wrapG o.guard g v1) u := by
     unfold wrapG
     split
     ·exact huv
     ·rw [hg]; exact ⟨fun _ => huv, fun h => by cases h⟩
    exact hk M _ _ (Ext.refl _ _) (hr.put (hput _ _) hv) (plain _)
  ·cases hf : freshOp o.op
   ·
    rw [hf] at h
    simp only [cond_false] at h
    split at h
    ·rename_i p c hpre htab
     cases hseen : seenCall l i ⟨Sn, Stm, SH⟩
     ·rw [hseen] at h; cases h
     ·rw [hseen] at h
      simp only [cond_true] at h
      have hpre1 := preCall_sub (n := Sn) (tm := Stm) hH hpre hseen
      have hpre2 : preCall [] lent l i s = some p := preCall_mono (S := ⟨Sn, Stm, s.hp⟩) hsub rfl hpre1
      split at h
      ·simp only [Option.some.injEq, Prod.mk.injEq] at h
       obtain ⟨rfl, rfl, rfl⟩ := h
       have hcond := hc.1
       refine wpOp_of_ok (pure_op lent p c.args c.res ⟨s.n, ins d (wrapG o.guard p.g (liftA (outV [] lent) c.res)) s.tm, s.hp⟩ hpre2 ?_ (fun hg => (hcond hg).1) (fun hg => (hcond hg).2.1) (fun hg => (hcond hg).2.2) hr
        (fun M' a' he' hr' => hk M' a' _ he' hr' (plain _)))
       unfold pureS
       rw [hl]
       simp only
       cases hgd : o.guard with
       | none => simp only [hput, wrapG]
       | some q => simp only [hput, wrapG]
      ·cases hb : (p.g && (okR c.new && allBig c.new))
       ·rw [hb] at h; cases h
       ·rw [hb] at h
        simp only [cond_true] at h
        simp only [Bool.and_eq_true] at hb
        split at h
        ·rename_i bs1 hbs
         simp only [Option.some.injEq, Prod.mk.injEq] at h
         obtain ⟨rfl, rfl, rfl⟩ := h
         obtain ⟨k1, k2, k3⟩ := hc.1
         have hin := inH_nil_hin hpre2
         have hm : missS l i s = some ⟨s.n, ins d (.whn false (.one .any)) s.tm, s.hp⟩ := by
          unfold missS; rw [hl]; simp only [hput]
         refine wpOp_of_ok (call_op (Φ := fun v H => v = c.res ∧ H = c.hr) [] c.new lent p c.args hpre2 hm (by simp only [List.nil_append, hb.2.1, hb.2.2]; rfl) (fun _ => k1) k2 (fun _ => by rw [hin]; exact k3) hr (fun _ v Hr hvH => ?_) (fun hg => by rw [hb.1] at hg; cases hg))
         obtain ⟨rfl, rfl⟩ := hvH
         obtain ⟨H2, hH2⟩ := outH_acc (mapV (clrO (newN c.new)) s.hp) hbs
         have l1 := outH_look hbs
         have l2 := outH_look hH2
         have hXe : bsX bs1 = newN c.new := by
          funext z
          unfold bsX newN
          cases hz : backN c.new z with
          | none => rw [(l1 z).2 hz]; rfl
          | some x =>
           obtain ⟨ob, _, _, e3⟩ := (l1 z).1 x hz
           rw [e3]; rfl
         refine ⟨⟨s.n, ins d (liftA (outV c.new lent) c.res) (mapV (clrA (newN c.new)) s.tm), H2⟩, ?_, fun M' a' he' hr' => hk M' a' _ he' hr' ⟨rfl, by rw [hXe], fun z ob hz => ?_, fun z hz => ?_⟩⟩
         ·unfold outS
          rw [hl]
          simp only [List.nil_append, hH2, hput]
         ·cases hbz : backN c.new z with
          | none => rw [(l1 z).2 hbz] at hz; cases hz
          | some x =>
           obtain ⟨o1, e1, _, e3⟩ := (l1 z).1 x hbz
           obtain ⟨o2, f1, _, f3⟩ := (l2 z).1 x hbz
           rw [e1] at f1
           cases f1
           rw [e3] at hz
           show look z H2 = _
           rw [f3, hz]
         ·cases hbz : backN c.new z with
          | none =>
           show look z H2 = _
           rw [(l2 z).2 hbz, look_mapV, hXe]
          | some x =>
           obtain ⟨o1, e1, _, e3⟩ := (l1 z).1 x hbz
           rw [e3] at hz; cases hz
        ·cases h
    ·cases h
   ·
    rw [hf] at h
    simp only [cond_true] at h
    cases hg : g
    ·rw [hg] at h; cases h
    ·rw [hg] at h
     simp only [cond_true] at h
     split at h
     ·rename_i rr hmem
      obtain ⟨id, ob, v0, x1, x2, x3, x4, x5⟩ := stepMem_fresh hf hmem
      rw [x1, x2] at h
      simp only at h
      have hlk : look id rr.hp = some ob := by rw [x4, look_ins, if_pos rfl]
      rw [hlk] at h
      simp only [Option.some.injEq, Prod.mk.injEq] at h
      obtain ⟨rfl, rfl, rfl⟩ := h
      obtain ⟨c1, c2⟩ := AllP_append.1 hc
      have hev : ∀ x v, (⟨Sn, Stm, s.hp⟩ : St).ev true (tmpsOf o.op.operands.toList) x = some v → AVR M v (a.eval x) := ev_sound rfl hrS (by rw [owed_hp (H' := SH)]; exact c1)
      have hm2 := x5 M.H
      obtain ⟨n, M', hrun, hHM, hok, hext, hval⟩ := stepMem_sound (P := P) hT hr.ok hev hm2 c2
      obtain ⟨u, rfl, huv⟩ := hval
      refine wpOp_of_ok ?_
      unfold OpOk
      rw [hl]
      simp only
      rw [if_pos (by rw [hw, hg])]
      refine .inl ?_
      unfold Oper.wp
      rw [hrun]
      have hXe : bsX [(id, ob)] = Nat.beq id := by
       funext z
       unfold bsX look look
       cases Nat.beq id z <;> rfl
      have hst := hr.step hHM hok hext
      refine hk M' _ ⟨s.n, ins d v0 (mapV (clrA (Nat.beq id)) s.tm), ins id ob (mapV (clrO (Nat.beq id)) M.H)⟩ (hext.mono fun x hx => by
       have := Nat.eq_of_beq_eq_true hx; subst this; exact x3) (hst.put (hput _ _) huv) ⟨rfl, by rw [hXe], fun z o1 hz => ?_, fun z hz => ?_⟩
      ·unfold look at hz
       cases hbz : Nat.beq id z
       ·rw [hbz] at hz; cases hz
       ·rw [hbz] at hz
        simp only [cond_true, Option.some.injEq] at hz
        subst hz
        have := Nat.eq_of_beq_eq_true hbz
        subst this
        show look id (ins id ob _) = _
        rw [look_ins, if_pos rfl]
      ·have hne : z ≠ id := by
        rintro rfl
        unfold look at hz
        rw [beq_self] at hz; cases hz
       show look z (ins id ob _) = _
       rw [look_ins, if_neg hne, look_mapV, hXe, hr.hp]
     ·cases h
 ·cases h
end
end Go.Ab
namespace Go.Ab
open Go
structure Ent where
 d : Nat
 v : AV
 bs : Heap
abbrev Ents := List (Nat × Ent)
def valsOf : Ents → Vals
 | [] => []
 | (k, e) :: r => (k, (e.d, e.v)) :: valsOf r
def insB : Heap → Heap → Heap
 | [], H => H
 | (z, o) :: r, H => ins z o (insB r H)
def hpOf (es : Ents) (H : Heap) : List Nat → Heap
 | [] => H
 | j :: r => (match look j es with | some e => insB e.bs (hpOf es H r) | none => hpOf es H r)
def hpAll : Ents → Heap → Heap
 | [], H => H
 | (_, e) :: r, H => insB e.bs (hpAll r H)
def clsAt : List (List Nat) → Nat → List Nat
 | [], _ => []
 | c :: _, 0 => c
 | _ :: r, i + 1 => clsAt r i
def run2 (P : Program) (T : Nat → Option TI) (tab : Tab) (lent : Bool) (l : List Oper) (cls : List (List Nat)) (s : St) : List Oper → Nat → Ents → Option (List (Nat × List Prop) × Ents)
 | [], _, es => some ([], es)
 | o :: r, i, es =>
  (match o.dst with
  | some d =>
   (match calmVal2 P T tab lent l i ⟨s.n, pickSlots s.tm (valsOf es) (bindsOf o.after.toList) (usesOf l o), hpOf es s.hp (clsAt cls i)⟩ with
   | some (cs, v, bs) => (match run2 P T tab lent l cls s r (i + 1) ((i, ⟨d, v, bs⟩) :: es) with | some (cds, fs) => some ((i, cs) :: cds, fs) | none => none)
   | none => none)
  | none => none)
def newX (es : Ents) (z : Nat) : Bool := es.any fun e => bsX e.2.bs z
def otherX (es : Ents) (i : Nat) (c : List Nat) (z : Nat) : Bool := es.any fun f => !(Nat.beq f.1 i) && !(hasN f.1 c) && bsX f.2.bs z
def entsOk (cls : List (List Nat)) (s : St) (es : Ents) : Bool :=
 s.tm.all (fun p => refsA (newX es) p.2) && s.hp.all (fun p => refsO (newX es) p.2) &&
 es.all (fun e => refsA (otherX es e.1 (clsAt cls e.1)) e.2.v && e.2.bs.all (fun p => refsO (otherX es e.1 (clsAt cls e.1)) p.2 && (look p.1 s.hp).isNone &&
  es.all (fun f => Nat.beq f.1 e.1 || !(bsX f.2.bs p.1))))
def clsOk (l : List Oper) (cls : List (List Nat)) : Nat → List Oper → Bool
 | _, [] => true
 | i, o :: r => (clsAt cls i).all (fun k => hasN k (bindsOf o.after.toList) || (bindsOf o.after.toList).any (fun j => hasN k (clsAt cls j))) && clsOk l cls (i + 1) r
def KeysG {α : Type} : List (Nat × α) → Prop
 | [] => True
 | (k, _) :: r => k = r.length ∧ KeysG r
section
variable {α : Type}
theorem KeysG.lt : ∀ {vs : List (Nat × α)}, KeysG vs → ∀ {j : Nat} {x : α}, look j vs = some x → j < vs.length
 | [], _, _, _, h => by cases h
 | (k, y) :: r, hk, j, x, h => by
  unfold look at h
  cases hb : Nat.beq k j
  ·rw [hb] at h
   have := KeysG.lt hk.2 h
   simp only [List.length_cons]; omega
  ·have := Nat.eq_of_beq_eq_true hb
   have := hk.1
   simp only [List.length_cons]; omega
theorem KeysG.there : ∀ {vs : List (Nat × α)}, KeysG vs → ∀ {j : Nat}, j < vs.length → ∃ x, look j vs = some x
 | [], _, _, h => by simp at h
 | (k, y) :: r, hk, j, h => by
  unfold look
  cases hb : Nat.beq k j
  ·have hne : k ≠ j := by rintro rfl; rw [beq_self] at hb; cases hb
   have := hk.1
   simp only [List.length_cons] at h
   exact KeysG.there hk.2 (by omega)
  ·exact ⟨y, rfl⟩
theorem KeysG.up {vs : List (Nat × α)} (hk : KeysG vs) {y : α} {j : Nat} {x : α} (h : look j vs = some x) : look j ((vs.length, y) :: vs) = some x := by
 unfold look
 have := hk.lt h
 rw [beq_ne (show vs.length ≠ j by omega)]
 exact h
theorem KeysG.mem : ∀ {vs : List (Nat × α)}, KeysG vs → ∀ {k : Nat} {x : α}, (k, x) ∈ vs → look k vs = some x
 | [], _, _, _, h => by cases h
 | (k0, y) :: r, hk, k, x, h => by
  obtain ⟨h1, h2⟩ := hk
  subst h1
  rcases List.mem_cons.1 h with h | h
  ·cases h
   unfold look; rw [beq_self]; rfl
  ·exact h2.up (KeysG.mem h2 h)
end
variable {H : Heap} {z : Nat} {s : St} {cls : List (List Nat)} {l : List Oper} {T : Nat → Option TI} {P : Program}
variable {es : Ents}
theorem look_cons {α : Type} (k z : Nat) (v : α) (r : List (Nat × α)) : look z ((k, v) :: r) = if z = k then some v else look z r := by
 show cond (Nat.beq k z) (some v) (look z r) = _
 by_cases h : z = k
 ·subst h; rw [if_pos rfl, beq_self]; rfl
 ·rw [if_neg h, beq_ne (Ne.symm h)]; rfl
theorem valsOf_len : ∀ es : Ents, (valsOf es).length = es.length
 | [] => rfl
 | (_, _) :: r => congrArg (· + 1) (valsOf_len r)
theorem keys_vals : ∀ {es : Ents}, KeysG es → KeysOk (valsOf es)
 | [], _ => trivial
 | (_, _) :: r, h => ⟨h.1.trans (valsOf_len r).symm, keys_vals h.2⟩
theorem look_vals {j : Nat} : ∀ {es : Ents}, look j (valsOf es) = (look j es).map fun e => (e.d, e.v)
 | [] => rfl
 | (k, e) :: r => by
  show look j ((k, (e.d, e.v)) :: valsOf r) = _
  rw [look_cons, look_cons, look_vals (es := r)]
  split <;> rfl
theorem mem_look {α : Type} {k : Nat} {x : α} : ∀ {l : List (Nat × α)}, look k l = some x → (k, x) ∈ l
 | [], h => by cases h
 | (k0, y) :: r, h => by
  unfold look at h
  cases hb : Nat.beq k0 k
  ·rw [hb] at h; exact List.mem_cons_of_mem _ (mem_look h)
  ·rw [hb] at h
   have := Nat.eq_of_beq_eq_true hb
   subst this
   cases h
   exact List.mem_cons_self
theorem insB_at : ∀ {bs : Heap}, look z (insB bs H) = (match look z bs with | some o => some o | none => look z H)
 | [] => rfl
 | (k, o) :: r => by
  unfold insB
  rw [look_ins, insB_at (bs := r), look_cons]
  by_cases hz : z = k
  ·rw [if_pos hz, if_pos hz]
  ·rw [if_neg hz, if_neg hz]
theorem hpOf_at {o : Obj} : ∀ {js : List Nat}, look z (hpOf es H js) = some o → (∃ j ∈ js, ∃ e, look j es = some e ∧ look z e.bs = some o) ∨ look z H = some o
 | [], h => .inr h
 | j :: r, h => by
  unfold hpOf at h
  split at h
  ·rename_i e he
   rw [insB_at] at h
   split at h
   ·rename_i o1 ho1
    cases h
    exact .inl ⟨j, List.mem_cons_self, e, he, ho1⟩
   ·rcases hpOf_at h with ⟨k, hk, x⟩ | h
    ·exact .inl ⟨k, List.mem_cons_of_mem _ hk, x⟩
    ·exact .inr h
  ·rcases hpOf_at h with ⟨k, hk, x⟩ | h
   ·exact .inl ⟨k, List.mem_cons_of_mem _ hk, x⟩
   ·exact .inr h
theorem hpAll_at {H : Heap} {z : Nat} : ∀ {es : Ents}, (∃ p ∈ es, ∃ o, look z p.2.bs = some o ∧ look z (hpAll es H) = some o) ∨ ((∀ p ∈ es, look z p.2.bs = none) ∧ look z (hpAll es H) = look z H)
 | [] => .inr ⟨(fun p hp => by cases hp), rfl⟩
 | (k, e) :: r => by
  unfold hpAll
  rw [insB_at]
  cases he : look z e.bs with
  | some o => exact .inl ⟨(k, e), List.mem_cons_self, o, he, rfl⟩
  | none =>
   rcases hpAll_at (H := H) (z := z) (es := r) with ⟨p, hp, o, h1, h2⟩ | ⟨h1, h2⟩
   ·exact .inl ⟨p, List.mem_cons_of_mem _ hp, o, h1, h2⟩
   ·refine .inr ⟨fun p hp => ?_, h2⟩
    rcases List.mem_cons.1 hp with rfl | hp
    ·exact he
    ·exact h1 p hp
def OpAt2 (P : Program) (T : Nat → Option TI) (tab : Tab) (lent : Bool) (l : List Oper) (cls : List (List Nat)) (s : St) (es : Ents) (i : Nat) (o : Oper) : Prop :=
 ∃ d cs v bs, ∃ ei : Ents, o.dst = some d ∧ look i es = some ⟨d, v, bs⟩ ∧ AllP cs ∧
  calmVal2 P T tab lent l i ⟨s.n, pickSlots s.tm (valsOf ei) (bindsOf o.after.toList) (usesOf l o), hpOf ei s.hp (clsAt cls i)⟩ = some (cs, v, bs) ∧
  (∀ j x, look j ei = some x → look j es = some x) ∧ (∀ j, j < i → ∃ x, look j ei = some x)
theorem run2_at {tab : Tab} {lent : Bool} : ∀ (rest : List Oper) (vals : Ents) {cds : List (Nat × List Prop)} {es : Ents}, KeysG vals → run2 P T tab lent l cls s rest vals.length vals = some (cds, es) → AllC cds →
  KeysG es ∧ es.length = vals.length + rest.length ∧ (∀ j x, look j vals = some x → look j es = some x) ∧ ∀ k o, rest[k]? = some o → OpAt2 P T tab lent l cls s es (vals.length + k) o
 | [], vals, cds, es, hk, h, _ => by
  simp only [run2, Option.some.injEq, Prod.mk.injEq] at h
  obtain ⟨_, rfl⟩ := h
  exact ⟨hk, rfl, fun _ _ h => h, fun k o hko => by simp at hko⟩
 | o :: r, vals, cds, es, hk, h, hc => by
  unfold run2 at h
  split at h
  ·rename_i d hd
   split at h
   ·rename_i cs v bs hv
    split at h
    ·rename_i cds1 es1 hrun
     simp only [Option.some.injEq, Prod.mk.injEq] at h
     obtain ⟨rfl, rfl⟩ := h
     have hk1 : KeysG ((vals.length, (⟨d, v, bs⟩ : Ent)) :: vals) := ⟨rfl, hk⟩
     obtain ⟨a1, a2, a3, a4⟩ := run2_at r ((vals.length, ⟨d, v, bs⟩) :: vals) hk1 hrun hc.2
     refine ⟨a1, by simp only [List.length_cons] at a2 ⊢; omega, fun j x hj => a3 j x (hk.up hj), fun k q hq => ?_⟩
     cases k with
     | zero =>
      simp only [List.getElem?_cons_zero, Option.some.injEq] at hq
      subst hq
      exact ⟨d, cs, v, bs, vals, hd, a3 _ _ (by unfold look; rw [Nat.add_zero, beq_self]; rfl), hc.1, hv, fun j x hj => a3 j x (hk.up hj), fun j hj => hk.there (by omega)⟩
     | succ k =>
      have := a4 k q (by simpa using hq)
      rw [show ((vals.length, (⟨d, v, bs⟩ : Ent)) :: vals).length + k = vals.length + (k + 1) by simp only [List.length_cons]; omega] at this
      exact this
    ·cases h
   ·cases h
  ·cases h
theorem clsOk_at : ∀ {rest : List Oper} {i0 : Nat}, clsOk l cls i0 rest = true → ∀ k o, rest[k]? = some o → ∀ x ∈ clsAt cls (i0 + k), x ∈ bindsOf o.after.toList ∨ ∃ j ∈ bindsOf o.after.toList, x ∈ clsAt cls j
 | [], _, _, k, o, hk => by simp at hk
 | p :: r, i0, h, k, o, hk => by
  unfold clsOk at h
  simp only [Bool.and_eq_true] at h
  cases k with
  | zero =>
   simp only [List.getElem?_cons_zero, Option.some.injEq] at hk
   subst hk
   intro x hx
   have := List.all_eq_true.1 h.1 x hx
   simp only [Bool.or_eq_true, List.any_eq_true] at this
   rcases this with h1 | ⟨j, h1, h2⟩
   ·exact .inl (hasN_mem.1 h1)
   ·exact .inr ⟨j, h1, hasN_mem.1 h2⟩
  | succ k =>
   have := clsOk_at h.2 k o (by simpa using hk)
   rw [show i0 + 1 + k = i0 + (k + 1) by omega] at this
   exact this
structure EntsOk (cls : List (List Nat)) (s : St) (es : Ents) : Prop where
 tm : ∀ t v, look t s.tm = some v → refsA (newX es) v = true
 hp : ∀ z o, look z s.hp = some o → refsO (newX es) o = true
 v : ∀ i e, look i es = some e → refsA (otherX es i (clsAt cls i)) e.v = true
 o : ∀ i e z o, look i es = some e → look z e.bs = some o → refsO (otherX es i (clsAt cls i)) o = true ∧ look z s.hp = none ∧ ∀ j f, look j es = some f → j ≠ i → look z f.bs = none
theorem entsOk_all (h : entsOk cls s es = true) : EntsOk cls s es := by
 unfold entsOk at h
 simp only [Bool.and_eq_true] at h
 obtain ⟨⟨h1, h2⟩, h3⟩ := h
 refine ⟨fun t v hv => List.all_eq_true.1 h1 _ (mem_look hv), fun z o ho => List.all_eq_true.1 h2 _ (mem_look ho), fun i e he => ?_, fun i e z o he ho => ?_⟩
 ·have := List.all_eq_true.1 h3 _ (mem_look he)
  simp only [Bool.and_eq_true] at this
  exact this.1
 ·have := List.all_eq_true.1 h3 _ (mem_look he)
  simp only [Bool.and_eq_true] at this
  have := List.all_eq_true.1 this.2 _ (mem_look ho)
  simp only [Bool.and_eq_true] at this
  obtain ⟨⟨k1, k2⟩, k3⟩ := this
  refine ⟨k1, Option.isNone_iff_eq_none.1 k2, fun j f hf hne => ?_⟩
  have := List.all_eq_true.1 k3 _ (mem_look hf)
  simp only [Bool.or_eq_true, Bool.not_eq_true'] at this
  rcases this with h | h
  ·exact absurd (Nat.eq_of_beq_eq_true h) hne
  ·unfold bsX at h
   cases hz : look z f.bs with
   | none => rfl
   | some q => rw [hz] at h; cases h
theorem newX_of {i : Nat} {e : Ent} (h : look i es = some e) (hz : bsX e.bs z = true) : newX es z = true := by
 unfold newX
 rw [List.any_eq_true]
 exact ⟨(i, e), mem_look h, hz⟩
theorem otherX_of {i j : Nat} {e : Ent} {c : List Nat} (h : look i es = some e) (hij : i ≠ j) (hc : i ∉ c) (hz : bsX e.bs z = true) : otherX es j c z = true := by
 unfold otherX
 rw [List.any_eq_true]
 refine ⟨(i, e), mem_look h, ?_⟩
 simp only [Bool.and_eq_true, Bool.not_eq_true']
 refine ⟨⟨beq_ne hij, ?_⟩, hz⟩
 cases hh : hasN i c
 ·rfl
 ·exact absurd (hasN_mem.1 hh) hc
structure Calm2 (l : List Oper) (s0 : St) (es : Ents) (listed : Array Bool) (s : St) : Prop where
 n : s.n = s0.n
 size : listed.size = l.length
 got : ∀ j e, listed.getD j false = true → look j es = some e → look e.d s.tm = some e.v
 old : ∀ t, (∀ j e, listed.getD j false = true → look j es = some e → e.d ≠ t) → look t s.tm = look t s0.tm
 gotH : ∀ j e z o, listed.getD j false = true → look j es = some e → look z e.bs = some o → look z s.hp = some o
 oldH : ∀ z, (∀ j e, listed.getD j false = true → look j es = some e → look z e.bs = none) → look z s.hp = look z s0.hp
 closed : ∀ j o, listed.getD j false = true → l[j]? = some o → ∀ i ∈ bindsOf o.after.toList, listed.getD i false = true
def depsOk : Nat → List Oper → Bool
 | _, [] => true
 | i, o :: r => (bindsOf o.after.toList).all (fun j => Nat.blt j i) && depsOk (i + 1) r
def calmP (l p : List Oper) (n : Nat) : Nat → List Oper → Bool
 | _, [] => true
 | i, o :: r => (match o.dst with | some d => Nat.ble (d + 1) n | none => false) && pairOk l i o 0 p && calmP l p n (i + 1) r
theorem depsOk_at : ∀ {rest : List Oper} {i0 : Nat}, depsOk i0 rest = true → ∀ k o, rest[k]? = some o → ∀ j ∈ bindsOf o.after.toList, j < i0 + k
 | [], _, _, k, o, hk => by simp at hk
 | p :: r, i0, h, k, o, hk => by
  unfold depsOk at h
  simp only [Bool.and_eq_true] at h
  cases k with
  | zero =>
   simp only [List.getElem?_cons_zero, Option.some.injEq] at hk
   subst hk
   exact fun j hj => Nat.le_of_ble_eq_true (List.all_eq_true.1 h.1 j hj)
  | succ k =>
   have := depsOk_at h.2 k o (by simpa using hk)
   rw [show i0 + 1 + k = i0 + (k + 1) by omega] at this
   exact this
theorem calmP_at {p : List Oper} {n : Nat} : ∀ {rest : List Oper} {i0 : Nat}, calmP l p n i0 rest = true → ∀ k o, rest[k]? = some o → (∃ d, o.dst = some d ∧ Nat.ble (d + 1) n = true) ∧ pairOk l (i0 + k) o 0 p = true
 | [], _, _, k, o, hk => by simp at hk
 | q :: r, i0, h, k, o, hk => by
  unfold calmP at h
  simp only [Bool.and_eq_true] at h
  obtain ⟨⟨h2, h3⟩, h4⟩ := h
  cases k with
  | zero =>
   simp only [List.getElem?_cons_zero, Option.some.injEq] at hk
   subst hk
   refine ⟨?_, h3⟩
   split at h2
   ·rename_i d hd; exact ⟨d, hd, h2⟩
   ·cases h2
  | succ k =>
   have := calmP_at h4 k o (by simpa using hk)
   rw [show i0 + 1 + k = i0 + (k + 1) by omega] at this
   exact this
theorem calm_any2 {tab : Tab} {lent : Bool} {s0 : St} {m : Nat} {M0 : Mem} {Q : Exit → Act → World → Prop} (hT : ∀ t i, T t = some i → TF P t i) (hml : m ≤ l.length) (hk : KeysG es) (hlen : es.length = m)
  (hops : ∀ k o, k < m → l[k]? = some o → OpAt2 P T tab lent l cls s0 es k o) (hdep : depsOk 0 l = true) (hok : calmP l (l.take m) s0.n 0 (l.take m) = true) (hcl : clsOk l cls 0 l = true) (hes : EntsOk cls s0 es) (htail : ∀ t, m ≤ t → t < l.length → ∀ j, j < m → j ∈ clsAt cls t)
  (hq : ∀ M a, Ext big M0 M → Rel M ⟨s0.n, insAll (valsOf es) s0.tm, hpAll es s0.hp⟩ a → wpAny P .any l.toArray (QN Q) (l.length - m) (List.replicate m true ++ List.replicate (l.length - m) false).toArray a M.w) :
  ∀ (fuel : Nat) (listed : Array Bool) (s : St), left listed.toList = fuel → Calm2 l s0 es listed s → (∀ t, m ≤ t → listed.getD t false = false) → ∀ M a, Ext big M0 M → Rel M s a → wpAny P .any l.toArray (QN Q) fuel listed a M.w := by
 have done : ∀ (listed : Array Bool) (s : St), Calm2 l s0 es listed s → (∀ t, m ≤ t → listed.getD t false = false) → (∀ j, j < m → listed.getD j false = true) → ∀ M a, Ext big M0 M → Rel M s a → wpAny P .any l.toArray (QN Q) (left listed.toList) listed a M.w := by
  intro listed s hcalm hno hall M a he hr
  have hle : listed.toList = List.replicate m true ++ List.replicate (l.length - m) false := by
   apply List.ext_getElem?
   intro k
   by_cases hk1 : k < l.length
   ·have hks : k < listed.size := by rw [hcalm.size]; exact hk1
    have hg : listed.toList[k]? = some (listed.getD k false) := by
     rw [Array.getElem?_toList, Array.getElem?_eq_getElem hks, Array.getD_eq_getD_getElem?, Array.getElem?_eq_getElem hks]; rfl
    rw [hg]
    by_cases hkm : k < m
    ·rw [hall k hkm, List.getElem?_append_left (by simpa using hkm), List.getElem?_replicate, if_pos hkm]
    ·rw [hno k (by omega), List.getElem?_append_right (by simp; omega), List.getElem?_replicate, if_pos (by simp; omega)]
   ·rw [List.getElem?_eq_none (by rw [Array.length_toList, hcalm.size]; omega), List.getElem?_eq_none (by simp; omega)]
  have hla : listed = (List.replicate m true ++ List.replicate (l.length - m) false).toArray := by rw [← hle]
  have hlf : left listed.toList = l.length - m := by
   rw [hle]
   have h1 : ∀ q, left (List.replicate q false) = q := by
    intro q
    induction q with
    | zero => rfl
    | succ q ih => simp only [List.replicate_succ, left, cond_false, ih]; omega
   have h2 : ∀ p (r : List Bool), left (List.replicate p true ++ r) = left r := by
    intro p r
    induction p with
    | zero => simp
    | succ p ih => simp only [List.replicate_succ, List.cons_append, left, cond_true, ih]; omega
   rw [h2, h1]
  obtain ⟨M', h1, h2, h3⟩ := hr.alike (s2 := ⟨s0.n, insAll (valsOf es) s0.tm, hpAll es s0.hp⟩) hcalm.n.symm (fun z => by
   show look z (hpAll es s0.hp) = _
   rcases hpAll_at (H := s0.hp) (z := z) (es := es) with ⟨p, hp, o, h1, h2⟩ | ⟨h1, h2⟩
   ·obtain ⟨k, e⟩ := p
    have hlk := hk.mem hp
    rw [h2, hcalm.gotH k e z o (hall k (by rw [← hlen]; exact hk.lt hlk)) hlk h1]
   ·rw [h2, hcalm.oldH z (fun j e _ hj => h1 (j, e) (mem_look hj))]) (fun t x hx => by
   rcases insAll_at (keys_vals hk) hx with ⟨j, hj⟩ | ⟨h1, h2⟩
   ·rw [look_vals, Option.map_eq_some_iff] at hj
    obtain ⟨e, he, hee⟩ := hj
    cases hee
    exact hcalm.got j e (hall j (by rw [← hlen]; exact hk.lt he)) he
   ·rw [hcalm.old t (fun j e _ hj => h2 j e.d e.v (by rw [look_vals, hj]; rfl))]
    exact h1)
  rw [← h2, hlf, hla]
  exact hq M' a (he.trans h3) h1
 have allReady : ∀ (listed : Array Bool) (s : St), Calm2 l s0 es listed s → Region.ready .any l.toArray listed = [] → ∀ j, j < m → listed.getD j false = true := by
  intro listed s hcalm hrd j
  induction j using Nat.strongRecOn with
  | ind j ih =>
   intro hjm
   have hj : j < l.length := by omega
   cases hb : listed.getD j false with
   | true => rfl
   | false =>
    exfalso
    have hjs : j < listed.size := by rw [hcalm.size]; exact hj
    have hmem : j ∈ Region.ready .any l.toArray listed := by
     rw [mem_ready]
     refine ⟨?_, l[j], by simp [hj], fun e he hbe => ?_⟩
     ·rw [Array.getD_eq_getD_getElem?, Array.getElem?_eq_getElem hjs] at hb ⊢
      exact hb
     ·have hin : e.on ∈ bindsOf l[j].after.toList := mem_bindsOf.2 ⟨e, by simpa using he, hbe, rfl⟩
      have := depsOk_at hdep j l[j] (List.getElem?_eq_getElem hj) _ hin
      exact ih e.on (by omega) (by omega)
    rw [hrd] at hmem; cases hmem
 have closedC : ∀ (listed : Array Bool) (s : St), Calm2 l s0 es listed s → ∀ j, j < l.length → (∀ o, l[j]? = some o → ∀ i ∈ bindsOf o.after.toList, listed.getD i false = true) → ∀ k ∈ clsAt cls j, listed.getD k false = true := by
  intro listed s hcalm j
  induction j using Nat.strongRecOn with
  | ind j ih =>
   intro hj hd k hk'
   have hjo : l[j]? = some l[j] := List.getElem?_eq_getElem hj
   have := clsOk_at hcl j l[j] hjo k (by rw [Nat.zero_add]; exact hk')
   rcases this with h | ⟨j', hj', h⟩
   ·exact hd _ hjo k h
   ·have hlt := depsOk_at hdep j l[j] hjo _ hj'
    rw [Nat.zero_add] at hlt
    have hl' := hd _ hjo j' hj'
    exact ih j' hlt (by omega) (fun o ho => hcalm.closed j' o hl' ho) k h
 have tailNo : ∀ (listed : Array Bool) (s : St), Calm2 l s0 es listed s → ∀ i ∈ Region.ready .any l.toArray listed, m ≤ i → ∀ j, j < m → listed.getD j false = true := by
  intro listed s hcalm i hi hmi j hj
  obtain ⟨_, o, ho, hdeps⟩ := mem_ready.1 hi
  have hil : i < l.length := by simpa using (Array.getElem?_eq_some_iff.1 ho).1
  have hio : l[i]? = some o := by simpa using ho
  refine closedC listed s hcalm i hil (fun q hq k hk' => ?_) j (htail i hmi hil j hj)
  rw [hio] at hq
  cases hq
  obtain ⟨e, he1, he2, rfl⟩ := mem_bindsOf.1 hk'
  exact hdeps e (by simpa using he1) he2
 intro fuel
 induction fuel with
 | zero =>
  intro listed s hleft hcalm hno M a he hr
  have hall : ∀ j, j < m → listed.getD j false = true := by
   intro j hj
   have hjs : j < listed.size := by rw [hcalm.size]; omega
   rw [Array.getD_eq_getD_getElem?, Array.getElem?_eq_getElem hjs]
   exact left_zero (l := listed.toList) hleft j _ (by rw [Array.getElem?_toList, Array.getElem?_eq_getElem hjs]; rfl)
  rw [← hleft]
  exact done listed s hcalm hno hall M a he hr
 | succ fuel ih =>
  intro listed s hleft hcalm hno M a he hr
  by_cases hall : ∀ j, j < m → listed.getD j false = true
  ·rw [← hleft]
   exact done listed s hcalm hno hall M a he hr
  refine ⟨fun hrd => absurd (allReady listed s hcalm hrd) hall, fun i hi => ?_⟩
  have him : i < m := by
   rcases Nat.lt_or_ge i m with h | h
   ·exact h
   ·exact absurd (tailNo listed s hcalm i hi h) hall
  obtain ⟨h1, o, ho, hdeps⟩ := mem_ready.1 hi
  have hil : i < l.length := by simpa using (Array.getElem?_eq_some_iff.1 ho).1
  have hio : l[i]? = some o := by simpa using ho
  have his : i < listed.size := by rw [hcalm.size]; exact hil
  have hfalse : listed.getD i false = false := by
   rw [Array.getD_eq_getD_getElem?, Array.getElem?_eq_getElem his] at h1 ⊢
   exact h1
  have hdl : ∀ j ∈ bindsOf o.after.toList, listed.getD j false = true := by
   intro j hj
   obtain ⟨e, he1, he2, rfl⟩ := mem_bindsOf.1 hj
   exact hdeps e (by simpa using he1) he2
  have hcli : ∀ k ∈ clsAt cls i, listed.getD k false = true := closedC listed s hcalm i hil (fun q hq => by rw [hio] at hq; cases hq; exact hdl)
  have takeAt : ∀ j q, j < m → l[j]? = some q → (l.take m)[j]? = some q := fun j q hj hq => by rw [List.getElem?_take, if_pos hj]; exact hq
  have hlt := depsOk_at hdep i o hio
  obtain ⟨⟨d0, hd0, hdn⟩, hpair⟩ := calmP_at hok i o (takeAt i o him hio)
  rw [Nat.zero_add] at hlt hpair
  obtain ⟨d, cs, v, bs, ei, hd, hlook, hcs, hval, hvi, hvt⟩ := hops i o him hio
  rw [hd] at hd0
  have hdd : d = d0 := Option.some.inj hd0
  subst hdd
  have hdrop : l.drop i = o :: l.drop (i + 1) := by
   rw [List.drop_eq_getElem_cons hil]
   congr 1
   rw [List.getElem?_eq_getElem hil] at hio
   exact Option.some.inj hio
  have dstOf : ∀ j e, look j es = some e → ∃ q, j < m ∧ l[j]? = some q ∧ q.dst = some e.d := by
   intro j e hj
   have hjm : j < m := by rw [← hlen]; exact hk.lt hj
   have hjlen : j < l.length := by omega
   obtain ⟨dj, _, vj, bj, _, hdj, hlj, _⟩ := hops j l[j] hjm (List.getElem?_eq_getElem hjlen)
   rw [hj] at hlj
   cases hlj
   exact ⟨l[j], hjm, List.getElem?_eq_getElem hjlen, hdj⟩
  have hsub : ∀ t x, look t (pickSlots s0.tm (valsOf ei) (bindsOf o.after.toList) (usesOf l o)) = some x → look t s.tm = some x := by
   intro t x hx
   obtain ⟨hu, hx⟩ := pick_at hx
   rcases hx with hx | ⟨hx1, hx2⟩
   ·obtain ⟨j, hj, hjv⟩ := depVal_some hx
    rw [look_vals, Option.map_eq_some_iff] at hjv
    obtain ⟨e, he', hee⟩ := hjv
    cases hee
    exact hcalm.got j e (hdl j hj) (hvi _ _ he')
   ·rw [hcalm.old t ?_]
    ·exact hx2
    ·rintro j e hjl hjv rfl
     have hji : i ≠ j := by rintro rfl; rw [hfalse] at hjl; cases hjl
     obtain ⟨q, hjm, hjq, hdj⟩ := dstOf j e hjv
     obtain ⟨d'', hd'', hor, _⟩ := pairOk_at hpair j q (takeAt j q hjm hjq) (by omega)
     rw [Nat.zero_add] at hor
     rw [hdj] at hd''
     cases hd''
     rcases hor hu with hor | hor
     ·obtain ⟨x', hx'⟩ := hvt j (hlt j hor)
      have := hvi _ _ hx'
      rw [hjv] at this
      cases this
      exact depVal_none hx1 j hor e.d e.v (by rw [look_vals, hx']; rfl) rfl
     ·have := hcalm.closed j q hjl hjq i hor
      rw [hfalse] at this; cases this
  have hH : HSub (hpOf ei s0.hp (clsAt cls i)) s.hp := by
   intro z ob hz
   rcases hpOf_at hz with ⟨j, hj, e, he', hzb⟩ | hz
   ·exact hcalm.gotH j e z ob (hcli j hj) (hvi _ _ he') hzb
   ·rw [hcalm.oldH z ?_]
    ·exact hz
    ·intro j e hjl hj
     cases hzb : look z e.bs with
     | none => rfl
     | some o1 =>
      have := (hes.o j e z o1 hj hzb).2.1
      rw [this] at hz; cases hz
  refine calmVal2_sound (S := ⟨s0.n, pickSlots s0.tm (valsOf ei) (bindsOf o.after.toList) (usesOf l o), hpOf ei s0.hp (clsAt cls i)⟩) (s := s) hT hdrop hd (by rw [hcalm.n]; exact hdn) hval hcs hcalm.n.symm hH hsub hr fun M' a' s2 he' hr' hbh => ?_
  have hset : ∀ j, (listed.setIfInBounds i true).getD j false = (if j = i then true else listed.getD j false) := by
   intro j
   by_cases hji : j = i
   ·subst hji
    rw [if_pos rfl, Array.getD_eq_getD_getElem?, Array.getElem?_setIfInBounds_self_of_lt his]; rfl
   ·rw [if_neg hji, Array.getD_eq_getD_getElem?, Array.getElem?_setIfInBounds_ne (Ne.symm hji), ← Array.getD_eq_getD_getElem?]
  have hXn : ∀ z, bsX bs z = true → newX es z = true := fun z hz => newX_of hlook hz
  have hXo : ∀ j e, j ≠ i → listed.getD j false = true → look j es = some e → ∀ z, bsX bs z = true → otherX es j (clsAt cls j) z = true := by
   intro j e hji hjl hj z hz
   refine otherX_of hlook (Ne.symm hji) (fun hin => ?_) hz
   obtain ⟨q, _, hjq, _⟩ := dstOf j e hj
   have := closedC listed s hcalm j (by have := hk.lt hj; omega) (fun o' ho' => hcalm.closed j o' hjl ho') i hin
   rw [hfalse] at this; cases this
  refine ih (listed.setIfInBounds i true) s2 ?_ ⟨hbh.n.trans hcalm.n, by simp [hcalm.size], ?_, ?_, ?_, ?_, ?_⟩ (fun t ht => by rw [hset, if_neg (by omega)]; exact hno t ht) M' a' (he.trans he') hr'
  ·have hlf : listed.toList[i]? = some false := by
    rw [Array.getElem?_toList, Array.getElem?_eq_getElem his]
    rw [Array.getD_eq_getD_getElem?, Array.getElem?_eq_getElem his] at hfalse
    exact congrArg some hfalse
   have := left_set hlf
   rw [Array.toList_setIfInBounds]
   omega
  ·intro j e hjl hj
   rw [hset] at hjl
   rw [hbh.tm, look_ins]
   by_cases hji : j = i
   ·subst hji
    rw [hlook] at hj
    cases hj
    rw [if_pos rfl]
   ·rw [if_neg hji] at hjl
    obtain ⟨q, hjm, hjq, hdj⟩ := dstOf j e hj
    obtain ⟨d'', hd'', _, hne⟩ := pairOk_at hpair j q (takeAt j q hjm hjq) (by omega)
    rw [hdj] at hd''
    cases hd''
    rw [if_neg (hne d hd), look_mapV, hcalm.got j e hjl hj]
    simp only [Option.map_some]
    rw [refsA_clr (hXo j e hji hjl hj) (hes.v j e hj)]
  ·intro t ht
   have htd : d ≠ t := ht i ⟨d, v, bs⟩ (by rw [hset, if_pos rfl]) hlook
   rw [hbh.tm, look_ins, if_neg (Ne.symm htd), look_mapV, hcalm.old t (fun j e hjl hj => ht j e (by rw [hset]; split; rfl; exact hjl) hj)]
   cases hl0 : look t s0.tm with
   | none => rfl
   | some w =>
    simp only [Option.map_some]
    rw [refsA_clr hXn (hes.tm t w hl0)]
  ·intro j e z ob hjl hj hz
   rw [hset] at hjl
   by_cases hji : j = i
   ·subst hji
    rw [hlook] at hj
    cases hj
    exact hbh.new z ob hz
   ·rw [if_neg hji] at hjl
    have hnone : look z bs = none := (hes.o j e z ob hj hz).2.2 i ⟨d, v, bs⟩ hlook (Ne.symm hji)
    rw [hbh.old z hnone, hcalm.gotH j e z ob hjl hj hz]
    simp only [Option.map_some]
    rw [refsO_clr (hXo j e hji hjl hj) (hes.o j e z ob hj hz).1]
  ·intro z hz
   have hnone : look z bs = none := hz i ⟨d, v, bs⟩ (by rw [hset, if_pos rfl]) hlook
   rw [hbh.old z hnone, hcalm.oldH z (fun j e hjl hj => hz j e (by rw [hset]; split; rfl; exact hjl) hj)]
   cases hl0 : look z s0.hp with
   | none => rfl
   | some w =>
    simp only [Option.map_some]
    rw [refsO_clr hXn (hes.hp z w hl0)]
  ·intro j q hjl hjq i' hi'
   rw [hset] at hjl ⊢
   split
   ·rfl
   ·by_cases hji : j = i
    ·subst hji
     rw [hio] at hjq
     cases hjq
     exact hdl i' hi'
    ·rw [if_neg hji] at hjl
     exact hcalm.closed j q hjl hjq i' hi'
def tailOk (cls : List (List Nat)) (m : Nat) : Nat → Nat → Bool
 | _, 0 => true
 | t, k + 1 => (List.range m).all (fun j => hasN j (clsAt cls t)) && tailOk cls m (t + 1) k
theorem tailOk_at {m : Nat} : ∀ {k t0 : Nat}, tailOk cls m t0 k = true → ∀ t, t0 ≤ t → t < t0 + k → ∀ j, j < m → j ∈ clsAt cls t
 | 0, t0, _, t, h1, h2, _, _ => by omega
 | k + 1, t0, h, t, h1, h2, j, hj => by
  unfold tailOk at h
  simp only [Bool.and_eq_true] at h
  by_cases ht : t = t0
  ·subst ht
   exact hasN_mem.1 (List.all_eq_true.1 h.1 j (List.mem_range.2 hj))
  ·exact tailOk_at h.2 t (by omega) (by omega) j hj
def calmCut2 (P : Program) (T : Nat → Option TI) (tab : Tab) (lent : Bool) (l : List Oper) (cls : List (List Nat)) (m : Nat) (ks hs : List Nat) (s : St) : Option (Bool × List (Nat × List Prop) × List Leaf) :=
 match run2 P T tab lent l cls s (l.take m) 0 [] with
 | some (cds, es) => (match explore P T tab lent l (l.length - m) (List.replicate m true ++ List.replicate (l.length - m) false).toArray [] ⟨s.n, insAll (valsOf es) s.tm, hpAll es s.hp⟩ with
  | some ls => some (entsOk cls s es, cds, ls.map fun y => (y.1, cutS ks hs y.2))
  | none => none)
 | none => none
theorem awp_calm2 {K : Post} {id : Nat} (tab : Tab) (lent : Bool) (cls : List (List Nat)) (m : Nat) (ks hs : List Nat) (cds cd2 : List (Nat × List Prop)) (n : Nat) (s' : St) (hm : P.follows .mixedOrders = true) (hsel : Region.noSelect l.toArray = true) (hT : ∀ t i, T t = some i → TF P t i)
  (hok : (Nat.ble m l.length && (depsOk 0 l && calmP l (l.take m) s.n 0 (l.take m)) && clsOk l cls 0 l && tailOk cls m m (l.length - m)) = true) (h : calmCut2 P T tab lent l cls m ks hs s = some (true, cds, List.replicate n (cd2, s'))) (hc : AllC cds) (hc2 : AllC cd2) (hk : K .normal s') : AWp P (.region id l.toArray true) K s := ⟨fun M0 M a he hr => by
 simp only [Bool.and_eq_true] at hok
 obtain ⟨⟨⟨hml, hdep, hok1⟩, hok2⟩, hok3⟩ := hok
 have hml := Nat.le_of_ble_eq_true hml
 unfold calmCut2 at h
 split at h
 ·rename_i cds1 es hrun
  split at h
  ·rename_i ls hls
   simp only [Option.some.injEq, Prod.mk.injEq] at h
   obtain ⟨hes, rfl, hlv⟩ := h
   obtain ⟨h1, h2, _, h4⟩ := run2_at (l.take m) [] trivial hrun hc
   have hleaf : ∀ y ∈ ls, AllC y.1 ∧ ∀ M a, Ext big M0 M → Rel M y.2 a → Qc K M0 .normal a M.w := by
    intro y hy
    have hmem : (y.1, cutS ks hs y.2) ∈ List.replicate n (cd2, s') := by
     rw [← hlv]
     exact List.mem_map_of_mem (f := fun y : Leaf => (y.1, cutS ks hs y.2)) hy
    have heq := List.eq_of_mem_replicate hmem
    simp only [Prod.mk.injEq] at heq
    refine ⟨by rw [heq.1]; exact hc2, fun M a he hr => ?_⟩
    obtain ⟨M', h3, h4, h5⟩ := awk_cut ks hs y.2 M a hr
    rw [heq.2] at h3
    exact ⟨s', M', hk, h3, h4, he.trans h5⟩
   have hall := calm_any2 (M0 := M0) (Q := Qc K M0) hT hml h1 (by rw [h2]; simp; omega) (fun k o hkm hko => by
     have := h4 k o (by rw [List.getElem?_take, if_pos hkm]; exact hko)
     rwa [List.length_nil, Nat.zero_add] at this) hdep hok1 hok2 (entsOk_all hes) (fun t ht1 ht2 j hj => tailOk_at hok3 t ht1 (by omega) j hj)
    (fun M a he hr => explore_sound (M0 := M0) (Q := Qc K M0) hT hsel (l.length - m) _ [] _ ls hls hleaf M a he hr)
    l.length (Array.replicate l.length false) s (by
     have : ∀ n, left (List.replicate n false) = n := by
      intro n
      induction n with
      | zero => rfl
      | succ n ih => simp only [List.replicate_succ, left, cond_false, ih]; omega
     rw [Array.toList_replicate, this])
    (by
     have no : ∀ j, (Array.replicate l.length false).getD j false = true → False := fun j hj => by simp [Array.getD_eq_getD_getElem?, Array.getElem?_replicate] at hj; split at hj <;> simp at hj
     exact ⟨rfl, by simp, fun j e hj => (no j hj).elim, fun t _ => rfl, fun j e z o hj => (no j hj).elim, fun z _ => rfl, fun j o hj => (no j hj).elim⟩)
    (fun t _ => by simp [Array.getD_eq_getD_getElem?, Array.getElem?_replicate]; split <;> rfl)
    M.drawn a (he.trans ((drawn_ext M).mono fun x hx => by cases hx)) (drawn_rel hr)
   refine wp_mono (wp_region_any (Q := QN (Qc K M0)) hm (by simp only [List.size_toArray]; exact hall)) fun e a w hq => ?_
   obtain ⟨rfl, hq⟩ := hq
   exact hq
  ·cases h
 ·cases h⟩
end Go.Ab
namespace Go.Ab
open Go
theorem MOk_shift {M : Mem} (hM : MOk M) (id off : Nat) (c c' : C0) (h : look id M.H = some (.flat c)) (hl : off + c'.len = c.len) (hz : c'.sz = c.sz) (hc : ∀ i j, i < c'.len → j < c.sz → c'.cell i j = c.cell (off + i) j) :
  MOk ⟨fun x => if x.1 = id then (M.μ x).map (fun bp => (bp.1, bp.2 + off * c.sz)) else M.μ x, ins id (.flat c') (mapV (clrO (Nat.beq id)) M.H), M.w, M.free⟩ ∧
  Ext (Nat.beq id) M ⟨fun x => if x.1 = id then (M.μ x).map (fun bp => (bp.1, bp.2 + off * c.sz)) else M.μ x, ins id (.flat c') (mapV (clrO (Nat.beq id)) M.H), M.w, M.free⟩ := by
 have hlook : ∀ (x : Key) ox, lk (ins id (.flat c') (mapV (clrO (Nat.beq id)) M.H)) x = some ox → (x = (id, none) ∧ ox = .flat c') ∨ (x.1 ≠ id ∧ ∃ o1, lk M.H x = some o1 ∧ ox = clrO (Nat.beq id) o1) := by
  intro x ox hx
  by_cases hxi : x.1 = id
  ·obtain ⟨x1, r⟩ := x
   simp only at hxi
   subst hxi
   cases r with
   | none =>
    rw [lk_ins_self] at hx
    cases hx
    exact .inl ⟨rfl, rfl⟩
   | some i => rw [lk_ins_row rfl] at hx; cases hx
  ·rw [lk_ins_ne hxi] at hx
   obtain ⟨o1, h1, rfl⟩ := lk_clr hx
   exact .inr ⟨hxi, o1, h1, rfl⟩
 have hμ : ∀ (x : Key) b q, (if x.1 = id then (M.μ x).map (fun bp => (bp.1, bp.2 + off * c.sz)) else M.μ x) = some (b, q) → ∃ q0, M.μ x = some (b, q0) ∧ (x.1 = id → q = q0 + off * c.sz) ∧ (x.1 ≠ id → q = q0) := by
  intro x b q hx
  by_cases hxi : x.1 = id
  ·rw [if_pos hxi, Option.map_eq_some_iff] at hx
   obtain ⟨⟨b0, q0⟩, h1, h2⟩ := hx
   simp only [Prod.mk.injEq] at h2
   obtain ⟨rfl, rfl⟩ := h2
   exact ⟨q0, h1, fun _ => rfl, fun hn => absurd hxi hn⟩
  ·rw [if_neg hxi] at hx
   exact ⟨q, hx, fun hn => absurd hn hxi, fun _ => rfl⟩
 have hext : Ext (Nat.beq id) M ⟨fun x => if x.1 = id then (M.μ x).map (fun bp => (bp.1, bp.2 + off * c.sz)) else M.μ x, ins id (.flat c') (mapV (clrO (Nat.beq id)) M.H), M.w, M.free⟩ := by
  refine ⟨⟨rfl, rfl, rfl, Nat.le_refl _, Nat.le_refl _, fun k hk hl' => ⟨rfl, ?_⟩, fun _ h => h, fun _ h => .inl h⟩, fun x ox hx hl' => ?_⟩
  ·rintro ⟨x, ox, q, h1, h2⟩
   obtain ⟨q0, h3, _⟩ := hμ x k q h2
   rcases hlook x ox h1 with ⟨rfl, rfl⟩ | ⟨_, o1, h4, _⟩
   ·exact hl' ⟨(id, none), _, q0, h, h3⟩
   ·exact hl' ⟨x, o1, q0, h4, h3⟩
  ·have hxi : x.1 ≠ id := by
    intro e
    rw [e, beq_self] at hx
    cases hx
   refine ⟨clrO (Nat.beq id) ox, ?_, clrO_sz _ _, by rw [clrO_len]; exact Nat.le_refl _, if_neg hxi, fun b' q cur' e' hm hc' => ⟨cur', hc', rfl⟩⟩
   show lk (ins id (.flat c') (mapV (clrO (Nat.beq id)) M.H)) x = _
   rw [lk_ins_ne hxi]
   exact lk_clr_of hM.named hx hl'
 refine ⟨⟨(hM.named.clr _).insP rfl, fun k hk => ⟨(hM.fr k hk).1, (hext.still k (hM.fr k hk).1 (hM.fr k hk).2).2⟩, fun x y ox oy b' q r hx hy hmx hmy => ?_, fun x ox hx hm => ?_, fun x ox b' q hx hm => ?_⟩, hext⟩
 ·obtain ⟨q0, m1, _⟩ := hμ x b' q hmx
  obtain ⟨r0, m2, _⟩ := hμ y b' r hmy
  have there : ∀ (x : Key) ox, lk (ins id (.flat c') (mapV (clrO (Nat.beq id)) M.H)) x = some ox → ∃ o1, lk M.H x = some o1 := by
   intro x ox hx
   rcases hlook x ox hx with ⟨rfl, _⟩ | ⟨_, o1, h4, _⟩
   ·exact ⟨_, h⟩
   ·exact ⟨o1, h4⟩
  obtain ⟨o1, h1⟩ := there x ox hx
  obtain ⟨o2, h2⟩ := there y oy hy
  exact hM.inj x y o1 o2 b' q0 r0 h1 h2 m1 m2
 ·rcases hlook x ox hx with ⟨rfl, rfl⟩ | ⟨hxi, o1, h4, rfl⟩
  ·simp only [if_pos, Option.map_eq_none_iff] at hm
   have h1 := hM.none_ (id, none) _ h hm
   have h2 : c.len = 0 := h1
   show c'.len = 0
   omega
  ·simp only [if_neg hxi] at hm
   rw [clrO_len]; exact hM.none_ x o1 h4 hm
 ·obtain ⟨q0, m1, m2, m3⟩ := hμ x b' q hm
  rcases hlook x ox hx with ⟨rfl, rfl⟩ | ⟨hxi, o1, h4, rfl⟩
  ·obtain ⟨cur1, e1, g1, g2, g3⟩ := hM.obj (id, none) _ b' q0 h m1
   have hq := m2 rfl
   refine ⟨cur1, e1, g1, ?_, fun i hi j hj => ?_⟩
   ·show q + c'.len * c'.sz ≤ cur1.size
    have g2' : q0 + c.len * c.sz ≤ cur1.size := g2
    rw [← hl, Nat.add_mul] at g2'
    rw [hz, hq]; omega
   ·have hi' : i < c'.len := hi
    have hj' : j < c.sz := by rw [← hz]; exact hj
    have hoi : off + i < c.len := by omega
    obtain ⟨u, k1, k2, k3⟩ := g3 (off + i) hoi j hj'
    refine ⟨u, ?_, k2, ?_⟩
    ·show cur1[q + (i * c'.sz + j)]? = some u
     rw [hz, hq]
     have : q0 + ((off + i) * (Obj.flat c).sz + j) = q0 + off * c.sz + (i * c.sz + j) := by
      show q0 + ((off + i) * c.sz + j) = _
      rw [Nat.add_mul]; omega
     rw [← this]; exact k1
    ·show VR _ (c'.cell i j) u
     rw [hc i j hi' hj']
     have := VR_ext hext k3
     have hcl : clrV (Nat.beq id) ((Obj.flat c).cell (off + i) j) = c.cell (off + i) j := by
      have := clrO_cell (Nat.beq id) (.flat c) (off + i) j
      exact this.symm
     rw [hcl] at this
     exact this
  ·obtain ⟨cur1, e1, g1, g2, g3⟩ := hM.obj x o1 b' q0 h4 m1
   have hq := m3 hxi
   subst hq
   refine ⟨cur1, e1, g1, by rw [clrO_len, clrO_sz]; exact g2, fun i hi j hj => ?_⟩
   rw [clrO_len] at hi
   rw [clrO_sz] at hj ⊢
   obtain ⟨u, k1, k2, k3⟩ := g3 i hi j hj
   exact ⟨u, k1, k2, by rw [clrO_cell]; exact VR_ext hext k3⟩
theorem awk_shift (id d off len : Nat) (c c' : C0) (s : St) (h : look id s.hp = some (.flat c)) (hd : look d s.tm = some (.one (.rw id off len))) (hb : big id = true) (hl : off + c'.len = c.len) (hz : c'.sz = c.sz) (hc : ∀ i j, i < c'.len → j < c.sz → c'.cell i j = c.cell (off + i) j) :
  AWk s ⟨s.n, ins d (.one (.rw id 0 len)) (mapV (clrA (Nat.beq id)) s.tm), ins id (.flat c') (mapV (clrO (Nat.beq id)) s.hp)⟩ := fun M a hr => by
 rw [← hr.hp] at h ⊢
 obtain ⟨h1, h2⟩ := MOk_shift hr.ok id off c c' h hl hz hc
 have h3 := hr.step rfl h1 h2
 refine ⟨_, ⟨rfl, h1, hr.defers, hr.size, fun e x he => ?_⟩, rfl, h2.mono (fun x hx => by have := Nat.eq_of_beq_eq_true hx; subst this; exact hb)⟩
 have he' : look e (ins d (.one (.rw id 0 len)) (mapV (clrA (Nat.beq id)) s.tm)) = some x := he
 rw [look_ins] at he'
 by_cases hed : e = d
 ·rw [if_pos hed] at he'
  cases he'
  subst hed
  obtain ⟨u, hu, hv⟩ := hr.tm e _ hd
  refine ⟨u, hu, ?_⟩
  obtain ⟨o1, k1, k2, k3⟩ := hv
  rw [lk_none, h] at k1
  cases k1
  have k2' : off + len ≤ c.len := k2
  refine ⟨.flat c', lk_ins_self _ _ _, by show 0 + len ≤ c'.len; omega, ?_⟩
  rcases k3 with k3 | ⟨b, p, a0, cap, m1, m2, m3, m4, m5, cur, e0, m6, m7⟩
  ·exact .inl k3
  ·refine .inr ⟨b, p + off * c.sz, a0, cap, by simp [m1], m2, m3, m4, ?_, cur, e0, m6, ?_⟩
   ·show a0 = p + off * c.sz + 0 * c'.sz
    rw [m5]; show p + off * c.sz = _; omega
   ·show p + off * c.sz + (0 + cap) * c'.sz ≤ cur.size
    have m7' : p + (off + cap) * c.sz ≤ cur.size := m7
    rw [Nat.add_mul] at m7'
    rw [hz, Nat.zero_add]; omega
 ·rw [if_neg hed] at he'
  exact h3.tm e x he'
theorem drop_ok {k : IntKind} {xs : List Int} {off : Nat} (h : off ≤ xs.length) : off + (C0.ints k (xs.drop off)).len = (C0.ints k xs).len ∧ ∀ i j, i < (C0.ints k (xs.drop off)).len → j < (C0.ints k xs).sz → (C0.ints k (xs.drop off)).cell i j = (C0.ints k xs).cell (off + i) j := by
 refine ⟨by simp only [C0.len, List.length_drop]; omega, fun i j _ _ => ?_⟩
 simp only [C0.cell]
 rw [List.getD_eq_getElem?_getD, List.getElem?_drop, ← List.getD_eq_getElem?_getD]
theorem awp_join_any {P : Program} {x : Code} {K : Post} {s : St} (J : St → Prop) (h : AWp P x (kSeq (JEnd J) K) s) (hk : ∀ s', J s' → K .normal s') : AWp P x K s :=
 awp_mono h fun e s h => by
  cases e with
  | normal => exact hk s h.run
  | exit i => exact h
  | goto i => exact h
  | ret => exact h
  | panic i => exact h
  | outgrown => exact h
end Go.Ab
namespace Go.Ab
open Go
section
variable {P : Program} {T : Nat → Option TI} {K : Post} {s : St}
variable {s' : St} {listed : Array Bool} {n : Nat} {l : List Oper}
structure AAny (P : Program) (l : List Oper) (K : Post) (n : Nat) (listed : Array Bool) (s : St) : Prop where
 run : ∀ (M0 M : Mem) (a : Act), Ext big M0 M → Rel M s a → wpAny P .any l.toArray (QN (Qc K M0)) n listed a M.w
def calmCut3 (P : Program) (T : Nat → Option TI) (tab : Tab) (lent : Bool) (l : List Oper) (cls : List (List Nat)) (m : Nat) (ks hs : List Nat) (s : St) : Option (Bool × List (Nat × List Prop) × St) :=
 match run2 P T tab lent l cls s (l.take m) 0 [] with
 | some (cds, es) => some (entsOk cls s es, cds, cutS ks hs ⟨s.n, insAll (valsOf es) s.tm, hpAll es s.hp⟩)
 | none => none
theorem aany_weak (hw : AWk s s') (hk : AAny P l K n listed s') : AAny P l K n listed s := ⟨fun M0 M a he hr => by
 obtain ⟨M', h1, h2, h3⟩ := hw M a hr
 rw [← h2]
 exact hk.run M0 M' a (he.trans h3) h1⟩
theorem awp_calm3 {id : Nat} (tab : Tab) (lent : Bool) (cls : List (List Nat)) (m n : Nat) (L : Array Bool) (ks hs : List Nat) (cds : List (Nat × List Prop)) (s' : St) (hm : P.follows .mixedOrders = true) (hT : ∀ t i, T t = some i → TF P t i)
  (hok : (Nat.ble m l.length && (depsOk 0 l && calmP l (l.take m) s.n 0 (l.take m)) && clsOk l cls 0 l && tailOk cls m m (l.length - m)) = true) (h : calmCut3 P T tab lent l cls m ks hs s = some (true, cds, s'))
  (hn : l.length - m = n) (hL : (List.replicate m true ++ List.replicate n false).toArray = L) (hc : AllC cds) (hk : AAny P l K n L s') : AWp P (.region id l.toArray true) K s := ⟨fun M0 M a he hr => by
 subst hn
 subst hL
 simp only [Bool.and_eq_true] at hok
 obtain ⟨⟨⟨hml, hdep, hok1⟩, hok2⟩, hok3⟩ := hok
 have hml := Nat.le_of_ble_eq_true hml
 unfold calmCut3 at h
 split at h
 ·rename_i cds1 es hrun
  simp only [Option.some.injEq, Prod.mk.injEq] at h
  obtain ⟨hes, rfl, rfl⟩ := h
  obtain ⟨h1, h2, _, h4⟩ := run2_at (l.take m) [] trivial hrun hc
  have hall := calm_any2 (M0 := M0) (Q := Qc K M0) hT hml h1 (by rw [h2]; simp; omega) (fun k o hkm hko => by
    have := h4 k o (by rw [List.getElem?_take, if_pos hkm]; exact hko)
    rwa [List.length_nil, Nat.zero_add] at this) hdep hok1 hok2 (entsOk_all hes) (fun t ht1 ht2 j hj => tailOk_at hok3 t ht1 (by omega) j hj)
   (fun M a he hr => (aany_weak (awk_cut ks hs _) hk).run M0 M a he hr)
   l.length (Array.replicate l.length false) s (by
    have : ∀ n, left (List.replicate n false) = n := by
     intro n
     induction n with
     | zero => rfl
     | succ n ih => simp only [List.replicate_succ, left, cond_false, ih]; omega
    rw [Array.toList_replicate, this])
   (by
    have no : ∀ j, (Array.replicate l.length false).getD j false = true → False := fun j hj => by simp [Array.getD_eq_getD_getElem?, Array.getElem?_replicate] at hj; split at hj <;> simp at hj
    exact ⟨rfl, by simp, fun j e hj => (no j hj).elim, fun t _ => rfl, fun j e z o hj => (no j hj).elim, fun z _ => rfl, fun j o hj => (no j hj).elim⟩)
   (fun t _ => by simp [Array.getD_eq_getD_getElem?, Array.getElem?_replicate]; split <;> rfl)
   M.drawn a (he.trans ((drawn_ext M).mono fun x hx => by cases hx)) (drawn_rel hr)
  refine wp_mono (wp_region_any (Q := QN (Qc K M0)) hm (by simp only [List.size_toArray]; exact hall)) fun e a w hq => ?_
  obtain ⟨rfl, hq⟩ := hq
  exact hq
 ·cases h⟩
theorem aany_call {k : Nat} {L : Array Bool} (ρ new : List (Nat × Nat)) (lent : Bool) (p : Pre) (args : List AV) {Φ : AV → Heap → Prop} {sm : St} (hrd : Region.ready .any l.toArray listed = [k]) (hL : listed.setIfInBounds k true = L) (hp : preCall ρ lent l k s = some p) (hm : missS l k s = some sm)
  (hR : (okR (ρ ++ new) && (okR ρ && (allSmall new ρ && allBig new))) = true) (hc : p.g = true → AllP p.cs) (hargs : p.args = args) (hA : p.g = true → ACall P p.f args p.hin Φ)
  (hk : p.g = true → ∀ v Hr, Φ v Hr → ∃ s', outS lent ρ new l k v Hr s = some s' ∧ AAny P l K n L s') (h0 : p.g = false → AAny P l K n L sm) : AAny P l K (n + 1) listed s := ⟨fun M0 M a he hr => by
 subst hL
 refine ⟨fun h0 => (by rw [hrd] at h0; cases h0), fun i hi => ?_⟩
 rw [hrd, List.mem_singleton] at hi
 subst hi
 exact wpOp_of_ok (call_op ρ new lent p args hp hm hR hc hargs hA hr
  (fun hg v Hr hΦ => (hk hg v Hr hΦ).imp fun _s' h => ⟨h.1, fun M' a' he' hr' => h.2.run M0 M' a' (he.trans he') hr'⟩)
  (fun hg a' hr' => (h0 hg).run M0 M a' he hr'))⟩
def stepOne (P : Program) (T : Nat → Option TI) (tab : Tab) (lent : Bool) (l : List Oper) (listed : Array Bool) (s : St) : Option (Nat × List Prop × St) :=
 match Region.ready .any l.toArray listed with
 | [] => none
 | j :: r => (match firstU T l.toArray listed s (j :: r) with
  | some x => some x
  | none => (match r with
   | [] => (match stepAny P T tab lent l j s with | some (cs, s') => some (j, cs, s') | none => none)
   | _ :: _ => none))
def walkTo (P : Program) (T : Nat → Option TI) (tab : Tab) (lent : Bool) (l : List Oper) : Nat → Array Bool → St → Option (List (Nat × List Prop) × Array Bool × St)
 | 0, listed, s => some ([], listed, s)
 | k + 1, listed, s => (match stepOne P T tab lent l listed s with
  | some (i, cs, s') => (match walkTo P T tab lent l k (listed.setIfInBounds i true) s' with
   | some (cds, L, s2) => some ((i, cs) :: cds, L, s2)
   | none => none)
  | none => none)
theorem aany_one {i : Nat} {tab : Tab} {lent : Bool} {cs : List Prop} (hT : ∀ t i, T t = some i → TF P t i) (hsel : Region.noSelect l.toArray = true) (h : stepOne P T tab lent l listed s = some (i, cs, s')) (hc : AllP cs) (hk : AAny P l K n (listed.setIfInBounds i true) s') :
  AAny P l K (n + 1) listed s := ⟨fun M0 M a he hr => by
 unfold stepOne at h
 split at h
 ·cases h
 ·rename_i j r hrd
  split at h
  ·rename_i x hf
   cases h
   obtain ⟨hi, o, ho, hfree, g, c, v, hg, h1, h2, h3⟩ := firstU_sound hf
   rw [← hrd] at hi
   obtain ⟨u, hyl, hr1⟩ := first_yields (P := P) hT hg h1 h2 h3 hc hr
   exact wpAny_first ho (Region.noSelect_spec hsel) (fun c a w h => by cases h.1) n listed a M.w (Region.free_spec ho hfree) hi hyl (hk.run M0 M _ he hr1)
  ·split at h
   ·split at h
    ·rename_i cs1 s1 hst
     cases h
     refine ⟨fun h0 => (by rw [hrd] at h0; cases h0), fun i hi => ?_⟩
     rw [hrd, List.mem_singleton] at hi
     subst hi
     exact stepAny_sound hT hst hc hr fun M' a' he' hr' => hk.run M0 M' a' (he.trans he') hr'
    ·cases h
   ·cases h⟩
theorem aany_walk0 {tab : Tab} {lent : Bool} (hT : ∀ t i, T t = some i → TF P t i) (hsel : Region.noSelect l.toArray = true) : ∀ (k n : Nat) (listed L : Array Bool) (s s' : St) (cds : List (Nat × List Prop)), walkTo P T tab lent l k listed s = some (cds, L, s') → AllC cds → AAny P l K n L s' → AAny P l K (n + k) listed s
 | 0, n, listed, L, s, s', cds, h, _, hk => by
  unfold walkTo at h
  cases h
  exact hk
 | k + 1, n, listed, L, s, s', cds, h, hc, hk => by
  unfold walkTo at h
  split at h
  ·rename_i i cs s1 h1
   split at h
   ·rename_i cds2 L2 s2 h2
    cases h
    exact aany_one hT hsel h1 hc.1 (aany_walk0 hT hsel k n _ _ _ _ _ h2 hc.2 hk)
   ·cases h
  ·cases h
def walkCut (P : Program) (T : Nat → Option TI) (tab : Tab) (lent : Bool) (l : List Oper) (k : Nat) (listed : Array Bool) (ks hs : List Nat) (s : St) : Option (List (Nat × List Prop) × Array Bool × St) :=
 match walkTo P T tab lent l k listed s with
 | some (cds, L, s') => some (cds, L, cutS ks hs s')
 | none => none
theorem aany_walk {L : Array Bool} (tab : Tab) (lent : Bool) (k : Nat) (ks hs : List Nat) (cds : List (Nat × List Prop)) (hsel : Region.noSelect l.toArray = true) (hT : ∀ t i, T t = some i → TF P t i) (h : walkCut P T tab lent l k listed ks hs s = some (cds, L, s')) (hc : AllC cds) (hk : AAny P l K n L s') :
  AAny P l K (n + k) listed s := by
 unfold walkCut at h
 split at h
 ·rename_i cds1 L1 s1 h1
  cases h
  exact aany_walk0 hT hsel k n _ _ _ _ _ h1 hc (aany_weak (awk_cut ks hs _) hk)
 ·cases h
def endCut (P : Program) (T : Nat → Option TI) (tab : Tab) (lent : Bool) (l : List Oper) (n : Nat) (listed : Array Bool) (ks hs : List Nat) (s : St) : Option (List Leaf) :=
 match explore P T tab lent l n listed [] s with
 | some ls => some (ls.map fun y => (y.1, cutS ks hs y.2))
 | none => none
theorem aany_end (tab : Tab) (lent : Bool) (ks hs : List Nat) (q : Nat) (cs : List (Nat × List Prop)) (s' : St) (hsel : Region.noSelect l.toArray = true) (hT : ∀ t i, T t = some i → TF P t i) (h : endCut P T tab lent l n listed ks hs s = some (List.replicate q (cs, s'))) (hc : AllC cs) (hk : K .normal s') :
  AAny P l K n listed s := ⟨fun M0 M a he hr => by
 unfold endCut at h
 split at h
 ·rename_i ls hls
  simp only [Option.some.injEq] at h
  refine explore_sound (M0 := M0) (Q := Qc K M0) hT hsel n _ [] s ls hls (fun y hy => ?_) M a he hr
  have hmem : (y.1, cutS ks hs y.2) ∈ List.replicate q (cs, s') := by
   rw [← h]
   exact List.mem_map_of_mem (f := fun y : Leaf => (y.1, cutS ks hs y.2)) hy
  have heq := List.eq_of_mem_replicate hmem
  simp only [Prod.mk.injEq] at heq
  refine ⟨by rw [heq.1]; exact hc, fun M a he hr => ?_⟩
  obtain ⟨M', h3, h4, h5⟩ := awk_cut ks hs y.2 M a hr
  rw [heq.2] at h3
  exact ⟨s', M', hk, h3, h4, he.trans h5⟩
 ·cases h⟩
end
end Go.Ab
namespace Go.Ab
open Go
end Go.Ab
namespace Go.Ab
open Go
end Go.Ab
namespace Go.Ab
open Go
end Go.Ab
namespace Go.Ab
open Go
section
variable {P : Program} {K : Post} {s : St}
end
end Go.Ab
namespace Go.Ab
open Go
theorem MOk_trunc {M : Mem} (hM : MOk M) (id : Nat) (c : C0) (n : Nat) (h : look id M.H = some (.flat c)) (hn : n ≤ c.len) :
  MOk ⟨M.μ, ins id (.flat (c.sub 0 n)) (mapV (clrO (Nat.beq id)) M.H), M.w, M.free⟩ ∧ Ext (Nat.beq id) M ⟨M.μ, ins id (.flat (c.sub 0 n)) (mapV (clrO (Nat.beq id)) M.H), M.w, M.free⟩ := by
 have hz : (Obj.flat (c.sub 0 n)).sz = (Obj.flat c).sz := C0.sub_sz c 0 n
 have hlen : (c.sub 0 n).len = n := by rw [C0.sub_len c 0 n hn]; omega
 have hpl : (Obj.flat (c.sub 0 n)).plain = true := rfl
 have hlook : ∀ (x : Key) ox, lk (ins id (.flat (c.sub 0 n)) (mapV (clrO (Nat.beq id)) M.H)) x = some ox → ∃ o1, lk M.H x = some o1 ∧ ox.sz = o1.sz ∧ ox.len ≤ o1.len ∧ (x.1 = id → ox = .flat (c.sub 0 n) ∧ o1 = .flat c) ∧ (x.1 ≠ id → ox = clrO (Nat.beq id) o1) := by
  intro x ox hx
  by_cases hxi : x.1 = id
  ·obtain ⟨x1, r⟩ := x
   simp only at hxi
   subst hxi
   cases r with
   | none =>
    rw [lk_ins_self] at hx
    cases hx
    exact ⟨.flat c, h, hz, by show (c.sub 0 n).len ≤ c.len; rw [hlen]; exact hn, fun _ => ⟨rfl, rfl⟩, fun hn => absurd rfl hn⟩
   | some i => rw [lk_ins_row hpl] at hx; cases hx
  ·rw [lk_ins_ne hxi] at hx
   obtain ⟨o1, h1, rfl⟩ := lk_clr hx
   exact ⟨o1, h1, clrO_sz _ _, by rw [clrO_len]; exact Nat.le_refl _, fun hn => absurd hn hxi, fun _ => rfl⟩
 have hext : Ext (Nat.beq id) M ⟨M.μ, ins id (.flat (c.sub 0 n)) (mapV (clrO (Nat.beq id)) M.H), M.w, M.free⟩ := by
  refine ⟨⟨rfl, rfl, rfl, Nat.le_refl _, Nat.le_refl _, fun k hk hl => ⟨rfl, ?_⟩, fun _ h => h, fun _ h => .inl h⟩, fun x ox hx hl => ?_⟩
  ·rintro ⟨x, ox, q, h1, h2⟩
   obtain ⟨o1, h3, _⟩ := hlook x ox h1
   exact hl ⟨x, o1, q, h3, h2⟩
  ·have hxi : x.1 ≠ id := by
    intro e
    rw [e, beq_self] at hx
    cases hx
   refine ⟨clrO (Nat.beq id) ox, ?_, clrO_sz _ _, by rw [clrO_len]; exact Nat.le_refl _, rfl, fun b' q cur' e' hm hc' => ⟨cur', hc', rfl⟩⟩
   show lk (ins id (.flat (c.sub 0 n)) (mapV (clrO (Nat.beq id)) M.H)) x = _
   rw [lk_ins_ne hxi]
   exact lk_clr_of hM.named hx hl
 refine ⟨⟨(hM.named.clr _).insP hpl, fun k hk => ⟨(hM.fr k hk).1, (hext.still k (hM.fr k hk).1 (hM.fr k hk).2).2⟩, fun x y ox oy b' q r hx hy hmx hmy => ?_, fun x ox hx hm => ?_, fun x ox b' q hx hm => ?_⟩, hext⟩
 ·obtain ⟨o1, h1, _⟩ := hlook x ox hx
  obtain ⟨o2, h2, _⟩ := hlook y oy hy
  exact hM.inj x y o1 o2 b' q r h1 h2 hmx hmy
 ·obtain ⟨o1, h1, _, h2, _⟩ := hlook x ox hx
  have := hM.none_ x o1 h1 hm
  omega
 ·obtain ⟨o1, h1, h2, h3, h4, h5⟩ := hlook x ox hx
  obtain ⟨cur1, e1, g1, g2, g3⟩ := hM.obj x o1 b' q h1 hm
  refine ⟨cur1, e1, g1, Nat.le_trans (Nat.add_le_add_left (by rw [h2]; exact Nat.mul_le_mul_right _ h3) _) g2, fun i hi j hj => ?_⟩
  by_cases hxi : x.1 = id
  ·obtain ⟨rfl, rfl⟩ := h4 hxi
   have hi' : i < n := by rw [← hlen]; exact hi
   rw [h2] at hj ⊢
   obtain ⟨u, k1, k2, k3⟩ := g3 i (Nat.lt_of_lt_of_le hi' hn) j hj
   refine ⟨u, k1, k2, ?_⟩
   have k4 : VB (c.cell i j) u := C0_cell_back k3
   have k5 : (c.sub 0 n).cell i j = c.cell i j := by rw [C0.sub_cell c 0 n i j (by omega), Nat.zero_add]
   show VR _ ((c.sub 0 n).cell i j) u
   rw [k5]; exact C0_cell_VR k4
  ·rw [h5 hxi] at hi hj ⊢
   rw [clrO_len] at hi
   rw [clrO_sz] at hj ⊢
   obtain ⟨u, k1, k2, k3⟩ := g3 i hi j hj
   exact ⟨u, k1, k2, by rw [clrO_cell]; exact VR_ext hext k3⟩
theorem awk_trunc (id d n : Nat) (c : C0) (s : St) (h : look id s.hp = some (.flat c)) (hd : look d s.tm = some (.one (.rw id 0 n))) (hb : big id = true) (hn : n ≤ c.len) :
  AWk s ⟨s.n, ins d (.one (.rw id 0 n)) (mapV (clrA (Nat.beq id)) s.tm), ins id (.flat (c.sub 0 n)) (mapV (clrO (Nat.beq id)) s.hp)⟩ := fun M a hr => by
 rw [← hr.hp] at h ⊢
 obtain ⟨h1, h2⟩ := MOk_trunc hr.ok id c n h hn
 have h3 := hr.step rfl h1 h2
 refine ⟨_, ⟨rfl, h1, hr.defers, hr.size, fun e x he => ?_⟩, rfl, h2.mono (fun x hx => by have := Nat.eq_of_beq_eq_true hx; subst this; exact hb)⟩
 have he' : look e (ins d (.one (.rw id 0 n)) (mapV (clrA (Nat.beq id)) s.tm)) = some x := he
 rw [look_ins] at he'
 by_cases hed : e = d
 ·rw [if_pos hed] at he'
  cases he'
  subst hed
  obtain ⟨u, hu, hv⟩ := hr.tm e _ hd
  refine ⟨u, hu, ?_⟩
  obtain ⟨o1, k1, _, k3⟩ := hv
  rw [lk_none, h] at k1
  cases k1
  refine ⟨.flat (c.sub 0 n), by show look id (ins id _ _) = _; rw [look_ins, if_pos rfl], ?_, ?_⟩
  ·show 0 + n ≤ (c.sub 0 n).len
   rw [C0.sub_len c 0 n hn]; omega
  ·rw [show (Obj.flat (c.sub 0 n)).sz = (Obj.flat c).sz from C0.sub_sz c 0 n]
   exact k3
 ·rw [if_neg hed] at he'
  exact h3.tm e x he'
end Go.Ab
namespace Go.Ab
open Go.MapKept
def findD (x : Int) : List (Int × Int) → Option Int
 | [] => none
 | p :: r => if p.1 = x then some p.2 else findD x r
def DictR (es : List MapEntry) (l : List (Int × Int)) : Prop := es.map (fun e => (e.key, e.val)) = l.map fun p => (Value.int .i64 p.1, Value.int .i64 p.2)
def MapAt (M : Mem) (b : Nat) (l : List (Int × Int)) : Prop := (∃ es clk, M.w.heap[b]? = some (Go.Obj.map es clk) ∧ DictR es.toList l) ∧ ¬ M.live b ∧ ¬ M.free b
abbrev Dict := Option (Nat × List (Int × Int))
def DAt (M0 M : Mem) : Dict → Prop
 | none => True
 | some (b, l) => M0.w.heap.size ≤ b ∧ MapAt M b l
abbrev PPost := Exit → Dict → St → Prop
theorem MapAt.ext {X : Nat → Bool} {M M' : Mem} {b : Nat} {l : List (Int × Int)} (h : MapAt M b l) (he : Ext X M M') : MapAt M' b l := by
 obtain ⟨⟨es, clk, h1, h2⟩, h3, h4⟩ := h
 have hb : b < M.w.heap.size := (Array.getElem?_eq_some_iff.1 h1).1
 have hs := he.still b hb h3
 refine ⟨⟨es, clk, hs.1.trans h1, h2⟩, hs.2, fun q => ?_⟩
 rcases he.only b q with q | q | q
 ·exact h4 q
 ·exact h3 q
 ·omega
theorem DAt.ext {X : Nat → Bool} {M0 M M' : Mem} {D : Dict} (h : DAt M0 M D) (he : Ext X M M') : DAt M0 M' D := by
 cases D with
 | none => trivial
 | some p => exact ⟨h.1, h.2.ext he⟩
def Qd (K : PPost) (M0 : Mem) : Exit → Act → World → Prop := fun e a w => ∃ D s M', K e D s ∧ Rel M' s a ∧ M'.w = w ∧ Ext big M0 M' ∧ DAt M0 M' D
structure PWp (P : Program) (c : Code) (K : PPost) (D : Dict) (s : St) : Prop where
 run : ∀ M0 M a, Ext big M0 M → DAt M0 M D → Rel M s a → c.wp P (Qd K M0) a M.w
structure POps (P : Program) (l : List Oper) (k : Nat) (K : PPost) (D : Dict) (s : St) : Prop where
 run : ∀ M0 M a, Ext big M0 M → DAt M0 M D → Rel M s a → wpList P l.toArray (Qd K M0) (l.drop k) a M.w
def pSeq (N : Dict → St → Prop) (K : PPost) : PPost
 | .normal, D, s => N D s
 | .exit i, D, s => K (.exit i) D s
 | .goto l, D, s => K (.goto l) D s
 | .ret, D, s => K .ret D s
 | .panic c, D, s => K (.panic c) D s
 | .outgrown, D, s => K .outgrown D s
def pBlk (id : Nat) (K : PPost) : PPost
 | .normal, D, s => K .normal D s
 | .exit i, D, s => cond (Nat.beq i id) (K .normal D s) (K (.exit i) D s)
 | .goto l, D, s => K (.goto l) D s
 | .ret, D, s => K .ret D s
 | .panic c, D, s => K (.panic c) D s
 | .outgrown, D, s => K .outgrown D s
structure PLoopEnd (I : Nat → Dict → St → Prop) (n : Nat) (D : Dict) (s : St) : Prop where
 run : ∃ m, m < n ∧ I m D s
theorem ploop_end {I : Nat → Dict → St → Prop} {n : Nat} {D : Dict} {s : St} (m : Nat) (h : m < n) (hI : I m D s) : PLoopEnd I n D s := ⟨m, h, hI⟩
section
variable {P : Program} {T : Nat → Option TI} {K : PPost} {D : Dict} {s s' : St}
variable {c x : Code} {k : Nat} {l : List Oper}
theorem pwp_start {K : Post} (h : PWp P c (fun e _ s => K e s) none s) : AWp P c K s := ⟨fun M0 M a he hr =>
 wp_mono (h.run M0 M a he trivial hr) fun _e _a _w ⟨_, s', M', h1, h2, h3, h4, _⟩ => ⟨s', M', h1, h2, h3, h4⟩⟩
theorem pwp_lift (h : AWp P c (fun e s' => K e D s') s) : PWp P c K D s := ⟨fun _M0 M a he hd hr =>
 wp_mono (h.run M M a (Ext.refl _ _) hr) fun _e _a _w ⟨s', M', h1, h2, h3, h4⟩ => ⟨D, s', M', h1, h2, h3, he.trans h4, hd.ext h4⟩⟩
theorem pwp_seq {y : Code} (h : PWp P x (pSeq (fun D s => PWp P y K D s) K) D s) : PWp P (.seq x y) K D s := ⟨fun M0 M a he hd hr =>
 wp_seq (wp_mono (h.run M0 M a he hd hr) fun e a w hq => by
  obtain ⟨D1, s1, M1, h1, h2, h3, h4, h5⟩ := hq
  cases e with
  | normal => subst h3; exact h1.run M0 M1 a h4 h5 h2
  | exit i => exact ⟨D1, s1, M1, h1, h2, h3, h4, h5⟩
  | goto i => exact ⟨D1, s1, M1, h1, h2, h3, h4, h5⟩
  | ret => exact ⟨D1, s1, M1, h1, h2, h3, h4, h5⟩
  | panic i => exact ⟨D1, s1, M1, h1, h2, h3, h4, h5⟩
  | outgrown => exact ⟨D1, s1, M1, h1, h2, h3, h4, h5⟩)⟩
theorem pwp_seq_lift {y : Code} (h : AWp P x (kSeq (fun s' => PWp P y K D s') (fun e s' => K e D s')) s) : PWp P (.seq x y) K D s :=
 pwp_seq (pwp_lift (awp_mono h fun e _ h => by cases e <;> exact h))
theorem pwp_tail_lift {N : Dict → St → Prop} (h : AWp P x (kSeq (fun s' => N D s') (fun e s' => K e D s')) s) : PWp P x (pSeq N K) D s :=
 pwp_lift (awp_mono h fun e _ h => by cases e <;> exact h)
theorem pwp_block {id : Nat} (h : PWp P c (pBlk id K) D s) : PWp P (.block id c) K D s := ⟨fun M0 M a he hd hr =>
 wp_block (wp_mono (h.run M0 M a he hd hr) fun e a w hq => by
  obtain ⟨D1, s1, M1, h1, h2, h3, h4, h5⟩ := hq
  cases e with
  | normal => exact ⟨D1, s1, M1, h1, h2, h3, h4, h5⟩
  | exit i =>
   simp only [pBlk] at h1
   by_cases hi : i = id
   ·subst hi
    rw [beq_self] at h1
    simp only [Exit.inBlock, if_true]
    exact ⟨D1, s1, M1, h1, h2, h3, h4, h5⟩
   ·rw [beq_ne hi] at h1
    simp only [Exit.inBlock, if_neg hi]
    exact ⟨D1, s1, M1, h1, h2, h3, h4, h5⟩
  | goto i => exact ⟨D1, s1, M1, h1, h2, h3, h4, h5⟩
  | ret => exact ⟨D1, s1, M1, h1, h2, h3, h4, h5⟩
  | panic i => exact ⟨D1, s1, M1, h1, h2, h3, h4, h5⟩
  | outgrown => exact ⟨D1, s1, M1, h1, h2, h3, h4, h5⟩)⟩
theorem pwp_loop (I : Nat → Dict → St → Prop) (n : Nat) (h0 : I n D s) (round : ∀ n D s, I n D s → PWp P c (pSeq (PLoopEnd I n) K) D s) : PWp P (.loop c) K D s := ⟨fun M0 M a he hd hr => by
 refine wp_loop_ghost (fun n a w => ∃ D s M', I n D s ∧ Rel M' s a ∧ M'.w = w ∧ Ext big M0 M' ∧ DAt M0 M' D) n ⟨D, s, M, h0, hr, rfl, he, hd⟩ fun n a w ⟨D1, s1, M1, h1, h2, h3, h4, h5⟩ => ?_
 subst h3
 refine wp_mono ((round n D1 s1 h1).run M0 M1 a h4 h5 h2) fun e a w hq => ?_
 obtain ⟨D2, s2, M2, k1, k2, k3, k4, k5⟩ := hq
 cases e with
 | normal =>
  obtain ⟨m, hm, hI⟩ := k1.run
  exact ⟨m, hm, D2, s2, M2, hI, k2, k3, k4, k5⟩
 | exit i => exact ⟨D2, s2, M2, k1, k2, k3, k4, k5⟩
 | goto i => exact ⟨D2, s2, M2, k1, k2, k3, k4, k5⟩
 | ret => exact ⟨D2, s2, M2, k1, k2, k3, k4, k5⟩
 | panic i => exact ⟨D2, s2, M2, k1, k2, k3, k4, k5⟩
 | outgrown => exact ⟨D2, s2, M2, k1, k2, k3, k4, k5⟩⟩
theorem pwp_weak (h : AWk s s') (k : PWp P c K D s') : PWp P c K D s := ⟨fun M0 M a he hd hr => by
 obtain ⟨M', h1, w1, e1⟩ := h M a hr
 rw [← w1]
 exact k.run M0 M' a (he.trans e1) (hd.ext e1) h1⟩
theorem pops_weak (h : AWk s s') (hk : POps P l k K D s') : POps P l k K D s := ⟨fun M0 M a he hd hr => by
 obtain ⟨M', h1, w1, e1⟩ := h M a hr
 rw [← w1]
 exact hk.run M0 M' a (he.trans e1) (hd.ext e1) h1⟩
theorem pops_cut (ks hs : List Nat) (s' : St) (h : cutS ks hs s = s') (hk : POps P l k K D s') : POps P l k K D s := by
 subst h; exact pops_weak (awk_cut ks hs s) hk
theorem pwp_region {id : Nat} (h : POps P l 0 K D s) : PWp P (.region id l.toArray false) K D s := ⟨fun M0 M a he hd hr => wp_region_lit (h.run M0 M a he hd hr)⟩
theorem pops_end (hk : l.drop k = []) (h : K .normal D s) : POps P l k K D s := ⟨fun M0 M a he hd hr => by
 rw [hk]
 exact wpList_nil ⟨D, s, M, h, hr, rfl, he, hd⟩⟩
theorem drop_next {o : Oper} {r : List Oper} (hl : l.drop k = o :: r) : l.drop (k + 1) = r := by
 have h1 : (l.drop k).drop 1 = r := by rw [hl]; rfl
 rwa [List.drop_drop] at h1
theorem pops_step {o : Oper} {r : List Oper} {cs : List Prop} (hT : ∀ t i, T t = some i → TF P t i) (hl : l.drop k = o :: r) (h : stepOp T l.toArray s o = some (cs, s')) (hc : AllP cs) (hk : POps P l (k + 1) K D s') : POps P l k K D s := ⟨fun M0 M a he hd0 hr => by
 have hd := drop_next hl
 rw [hl]
 unfold wpList
 rcases stepOp_sound (P := P) hT h hc hr with ⟨hw, hr'⟩ | ⟨hw, n, M', u, hrun, hext, hr', hn⟩
 ·rw [if_neg (by rw [hw]; decide)]
  rw [← hd]
  exact hk.run M0 M _ he hd0 hr'
 ·rw [if_pos hw]
  refine .inl ?_
  have hgo := hk.run M0 M' _ (he.trans hext) (hd0.ext hext) hr'
  rw [hd] at hgo
  unfold Oper.wp
  rw [hrun]
  rcases hn with rfl | ⟨rfl, rfl⟩
  ·exact hgo
  ·exact hgo⟩
theorem pops_ops (hT : ∀ t i, T t = some i → TF P t i) (seg : List Oper) : ∀ (k : Nat) (s : St) (cs : List Prop), l.drop k = seg ++ l.drop (k + seg.length) → runOps T l.toArray seg s = some (cs, s') → AllP cs → POps P l (k + seg.length) K D s' → POps P l k K D s := by
 induction seg with
 | nil =>
  intro k s cs _ h _ hk
  simp only [runOps, Option.some.injEq, Prod.mk.injEq] at h
  obtain ⟨rfl, rfl⟩ := h
  exact hk
 | cons o seg ih =>
  intro k s cs hl h hc hk
  unfold runOps at h
  split at h
  ·rename_i cs1 s1 h1
   split at h
   ·rename_i cs2 s2 h2
    simp only [Option.some.injEq, Prod.mk.injEq] at h
    obtain ⟨rfl, rfl⟩ := h
    obtain ⟨c1, c2⟩ := AllP_append.1 hc
    have e1 : k + (o :: seg).length = k + 1 + seg.length := by simp only [List.length_cons]; omega
    rw [e1] at hl hk
    refine pops_step hT hl h1 c1 (ih (k + 1) s1 cs2 ?_ h2 c2 hk)
    have h3 : (l.drop k).drop 1 = seg ++ l.drop (k + 1 + seg.length) := by rw [hl]; rfl
    rwa [List.drop_drop] at h3
   ·cases h
  ·cases h
theorem pops_run (m : Nat) (ks hs : List Nat) (cs : List Prop) (s' : St) (hT : ∀ t i, T t = some i → TF P t i) (hle : Nat.ble (k + m) l.length = true) (h : runCut T l k m ks hs s = some (cs, s')) (hc : AllP cs) (hk : POps P l (k + m) K D s') : POps P l k K D s := by
 unfold runCut at h
 split at h
 ·rename_i cs1 s1 h1
  simp only [Option.some.injEq, Prod.mk.injEq] at h
  obtain ⟨rfl, rfl⟩ := h
  have hle := Nat.le_of_ble_eq_true hle
  have hlen : ((l.drop k).take m).length = m := by rw [List.length_take, List.length_drop]; omega
  refine pops_ops hT ((l.drop k).take m) k s cs1 ?_ h1 hc ?_
  ·rw [hlen, ← List.drop_drop, List.take_append_drop]
  ·rw [hlen]
   exact pops_weak (awk_cut ks hs s1) (by assumption)
 ·cases h
structure Same (M M' : Mem) : Prop where
 μ : M'.μ = M.μ
 H : M'.H = M.H
 fr : ∀ q, M.free q → M'.free q
 fr2 : ∀ q, M'.free q → M.free q ∨ (q < M'.w.heap.size ∧ ¬ M.live q)
 cells : ∀ (q : Nat) cur e f, M.w.heap[q]? = some (Go.Obj.cells cur e f) → M'.w.heap[q]? = some (Go.Obj.cells cur e f)
 maps : ∀ (q : Nat) es clk, M.free q → M.w.heap[q]? = some (Go.Obj.map es clk) → M'.w.heap[q]? = some (Go.Obj.map es clk)
section
variable {M M' : Mem}
variable {u : Value} {len sz : Nat} {v : V1}
theorem Same.live (h : Same M M') : M'.live = M.live := by unfold Mem.live; rw [h.μ, h.H]
theorem Same.cell (h : Same M M') {A : Addr} (hc : M.w.cell? A = some u) : M'.w.cell? A = some u := by
 unfold World.cell? at hc ⊢
 split at hc
 ·rename_i c e f hb
  rw [h.cells _ _ _ _ hb]
  exact hc
 ·cases hc
theorem Same.row (h : Same M M') {C C' : Nat → Nat → Value → Prop} {b off : Nat} (hC : ∀ i j u, C i j u → C' i j u) (hr : M.rowAt len sz C b off) : M'.rowAt len sz C' b off :=
 ⟨by rw [h.live]; exact ⟨h.fr _ hr.1.1, hr.1.2⟩, fun i hi j hj => by
  obtain ⟨u, h1, h2⟩ := hr.2 i hi j hj
  exact ⟨u, h.cell h1, hC i j u h2⟩⟩
theorem Same.roSl (h : Same M M') {C C' : Nat → Nat → Value → Prop} {v : Value} (hC : ∀ i j u, C i j u → C' i j u) (hr : M.roSl len sz C v) : M'.roSl len sz C' v := by
 obtain ⟨A, cap, h1, h2, h3, h4⟩ := hr
 refine ⟨A, cap, h1, h2, h3, ?_⟩
 rcases h4 with h4 | ⟨b, off, h5, h6⟩
 ·exact .inl h4
 ·exact .inr ⟨b, off, h5, h.row hC h6⟩
theorem Same.roPt (h : Same M M') {C C' : Nat → Nat → Value → Prop} {i j : Nat} {v : Value} (hC : ∀ i j u, C i j u → C' i j u) (hr : M.roPt len sz C i j v) : M'.roPt len sz C' i j v := by
 obtain ⟨h1, h2, b, off, h3, h4⟩ := hr
 exact ⟨h1, h2, b, off, h3, h.row hC h4⟩
theorem Same.VF (h : Same M M') (hv : VF M v u) : VF M' v u := by
 cases v <;> first | exact hv | exact h.roSl (fun _ _ _ q => q) hv | exact h.roPt (fun _ _ _ q => q) hv
theorem Same.VM (h : Same M M') (hv : VM M v u) : VM M' v u := by
 by_cases hlow : v.low = true
 ·rw [VM_low hlow] at hv ⊢
  exact h.VF hv
 cases v <;> try (exact absurd rfl hlow)
 case rs c => exact h.roSl (fun _ _ _ q => h.VF q) hv
 case rq c i j => exact h.roPt (fun _ _ _ q => h.VF q) hv
 case dm l =>
  obtain ⟨b, rfl, ⟨hf, hl⟩, es, h1, h2, h3⟩ := hv
  refine ⟨b, rfl, ⟨h.fr _ hf, by rw [h.live]; exact hl⟩, es, h.maps b es _ hf h1, h2, fun i x hx => ?_⟩
  obtain ⟨e, q1, q2, q3, cs, q4, q5, q6⟩ := h3 i x hx
  exact ⟨e, q1, q2, q3, cs, q4, q5, fun j hj => (q6 j hj).imp fun u hu => ⟨hu.1, h.VF hu.2⟩⟩
 case ptr id i j => obtain ⟨o, b, p, h1, h2, h3⟩ := hv; exact ⟨o, b, p, by rw [h.H]; exact h1, by rw [h.μ]; exact h2, h3⟩
 case mptr id i j => obtain ⟨o, b, p, h1, h2, h3⟩ := hv; exact ⟨o, b, p, by rw [h.H]; exact h1, by rw [h.μ]; exact h2, h3⟩
 case rw id off len =>
  obtain ⟨o, h1, h2, h3⟩ := hv
  refine ⟨o, by rw [h.H]; exact h1, h2, ?_⟩
  rcases h3 with h3 | ⟨b, p, a, cap, q1, q2, q3, q4, q5, cur, e, q6, q7⟩
  ·exact .inl h3
  ·exact .inr ⟨b, p, a, cap, by rw [h.μ]; exact q1, q2, q3, q4, q5, cur, e, h.cells _ _ _ _ q6, q7⟩
 case mrow id i len =>
  obtain ⟨o, h1, h2, h3⟩ := hv
  refine ⟨o, by rw [h.H]; exact h1, h2, ?_⟩
  rcases h3 with h3 | ⟨b, p, cap, q1, q2, q3, q4, cur, e, q6, q7⟩
  ·exact .inl h3
  ·exact .inr ⟨b, p, cap, by rw [h.μ]; exact q1, q2, q3, q4, cur, e, h.cells _ _ _ _ q6, q7⟩
theorem Same.VR (h : Same M M') (hv : VR M v u) : VR M' v u := by
 by_cases hf : ∃ f caps, v = .fn f caps
 case neg =>
  have h' : Go.Ab.VM M v u := by cases v <;> first | exact hv | exact absurd ⟨_, _, rfl⟩ hf
  have h2 := h.VM h'
  cases v <;> first | exact h2 | exact absurd ⟨_, _, rfl⟩ hf
 case pos =>
  obtain ⟨f, caps, rfl⟩ := hf
  obtain ⟨cs, h1, h2, h3⟩ := hv
  exact ⟨cs, h1, h2, fun i c hi => by obtain ⟨u, q1, q2⟩ := h3 i c hi; exact ⟨u, q1, h.VM q2⟩⟩
theorem Same.CellsR (h : Same M M') {vs : List V1} {cs : Array Value} (hv : CellsR M vs cs) : CellsR M' vs cs :=
 ⟨hv.1, fun i v hi => by obtain ⟨u, q1, q2⟩ := hv.2 i v hi; exact ⟨u, q1, h.VR q2⟩⟩
theorem Same.ER (h : Same M M') {e : Bool × List V1} (hv : ER M e u) : ER M' e u := by
 obtain ⟨b, vs⟩ := e
 cases b
 ·match vs, hv with
  | [v], hv => exact h.VR hv
 ·obtain ⟨cs, rfl, hc⟩ := hv
  exact ⟨cs, rfl, h.CellsR hc⟩
theorem Same.AVR (h : Same M M') {v : AV} : ∀ {u : Value}, AVR M v u → AVR M' v u := by
 induction v with
 | one v => exact fun hv => h.VR hv
 | agg vs => rintro u ⟨cs, rfl, hc⟩; exact ⟨cs, rfl, h.CellsR hc⟩
 | tup es => rintro u ⟨us, rfl, hn, hc⟩; exact ⟨us, rfl, hn, fun i e hi => by obtain ⟨x, q1, q2⟩ := hc i e hi; exact ⟨x, q1, h.ER q2⟩⟩
 | whn g v ih => rintro u ⟨h1, h2⟩; exact ⟨fun hg => ih (h1 hg), h2⟩
theorem Same.ok (h : Same M M') (hM : MOk M) (hsz : M.w.heap.size ≤ M'.w.heap.size) : MOk M' := by
 refine ⟨by rw [h.H]; exact hM.named, fun b hb => ?_, ?_, ?_, fun x o b p hx hm => ?_⟩
 ·rw [h.live]
  rcases h.fr2 b hb with hb | hb
  ·exact ⟨Nat.lt_of_lt_of_le (hM.fr b hb).1 hsz, (hM.fr b hb).2⟩
  ·exact hb
 ·rw [h.H, h.μ]; exact hM.inj
 ·rw [h.H, h.μ]; exact hM.none_
 ·rw [h.H] at hx
  rw [h.μ] at hm
  obtain ⟨cur, e, h1, h2, h3⟩ := hM.obj x o b p hx hm
  exact ⟨cur, e, h.cells _ _ _ _ h1, h2, fun i hi j hj => (h3 i hi j hj).imp fun u q => ⟨q.1, q.2.1, h.VR q.2.2⟩⟩
theorem Same.rel (h : Same M M') {s : St} {a : Act} (hr : Rel M s a) (hsz : M.w.heap.size ≤ M'.w.heap.size) : Rel M' s a :=
 ⟨h.H.trans hr.hp, h.ok hr.ok hsz, hr.defers, hr.size, fun d v hd => by obtain ⟨u, q1, q2⟩ := hr.tm d v hd; exact ⟨u, q1, h.AVR q2⟩⟩
end
variable {et kt t : TypeId} {l r : List Oper} {o : Oper} {k : Nat}
theorem world_ext {M : Mem} {w' : World} (hos : w'.os = M.w.os) (ht : w'.tape = M.w.tape) (hout : w'.output = M.w.output) (hdr : M.w.drawn ≤ w'.drawn) (hsz : M.w.heap.size ≤ w'.heap.size) (hh : ∀ k, k < M.w.heap.size → w'.heap[k]? = M.w.heap[k]?) :
  Ext noX M ⟨M.μ, M.H, w', M.free⟩ := by
 have hlive : ∀ b, Mem.live ⟨M.μ, M.H, w', M.free⟩ b → M.live b := fun b h => h
 exact ⟨⟨hos, ht, hout, hdr, hsz, fun b hb hl => ⟨hh b hb, fun h => hl (hlive b h)⟩, fun _ h => h, fun _ h => .inl h⟩, fun x o _ h => ⟨o, h, rfl, Nat.le_refl _, rfl, fun b p cur e _ hc => ⟨cur, by
  rw [hh b (Array.getElem?_eq_some_iff.1 hc).1]; exact hc, rfl⟩⟩⟩
theorem world_ok {M : Mem} {w' : World} (hM : MOk M) (he : Ext noX M ⟨M.μ, M.H, w', M.free⟩) (hsz : M.w.heap.size ≤ w'.heap.size) (hh : ∀ k, k < M.w.heap.size → w'.heap[k]? = M.w.heap[k]?) : MOk ⟨M.μ, M.H, w', M.free⟩ := by
 refine ⟨hM.named, fun b hb => ⟨Nat.lt_of_lt_of_le (hM.fr b hb).1 hsz, (hM.fr b hb).2⟩, hM.inj, hM.none_, fun x o b p hx hm => ?_⟩
 obtain ⟨cur, e, h1, h2, h3⟩ := hM.obj x o b p hx hm
 exact ⟨cur, e, by rw [← h1]; exact hh b (Array.getElem?_eq_some_iff.1 h1).1, h2, fun i hi j hj => (h3 i hi j hj).imp fun u h => ⟨h.1, h.2.1, VR_ext0 he h.2.2⟩⟩
theorem pops_newmap {h0 : Option Operand} {d : Nat} (hl : l.drop k = o :: r) (ho : o.op = .makeMap t h0) (hd : o.dst = some d) (hg : o.guard = none) (hlt : Nat.ble (d + 1) s.n = true)
  (hm : P.underlying t = some (.map kt et)) (hh : ∀ x, h0 = some x → ∃ kk n, s.raw x = some (.one (.int kk n)))
  (hk : ∀ b, POps P l (k + 1) K (some (b, [])) ⟨s.n, ins d (.one (.mapv b)) s.tm, s.hp⟩) : POps P l k K none s := ⟨fun M0 M a he _ hr => by
 have hd0 := drop_next hl
 rw [hl]
 unfold wpList
 rw [if_pos (by simp [Region.wanted, hg])]
 refine .inl ?_
 have hrun : (execOp a.eval o).run P M.w = .ok (.value (.map (some M.w.heap.size))) (M.w.alloc (.map #[] 0)) := by
  cases h0 with
  | none => simp only [execOp, ho, Instr.makeMap, Option.map_none, Sem.run_bind, Sem.run_pure, run_newObj, Result.andThen_ok]; rfl
  | some x =>
   obtain ⟨kk, n, hx⟩ := hh x rfl
   have hv := VR_int (raw_sound hr hx)
   simp [execOp, ho, Instr.makeMap, run_underlying hm, hv, asInt, asIntOf, run_newObj]
 unfold Oper.wp
 rw [hrun]
 have hnew : ∀ q, q < M.w.heap.size → (M.w.alloc (.map #[] 0)).heap[q]? = M.w.heap[q]? := fun q hq => heap_alloc_old M.w _ hq
 have hext := world_ext (M := M) (w' := M.w.alloc (.map #[] 0)) rfl rfl rfl (Nat.le_refl _) (by simp) hnew
 have hok := world_ok hr.ok hext (by simp) hnew
 have hr1 := hr.step0 (M' := ⟨M.μ, M.H, M.w.alloc (.map #[] 0), M.free⟩) (hp := s.hp) hr.hp hok hext
 have hput : putD o.dst (.one (.mapv M.w.heap.size)) s.n s.tm = some (ins d (.one (.mapv M.w.heap.size)) s.tm) := by
  rw [hd]; simp only [putD, hlt, cond_true]
 have hr2 := hr1.put (dst := o.dst) (v := .one (.mapv M.w.heap.size)) (u := .map (some M.w.heap.size)) hput rfl
 have hgo := (hk M.w.heap.size).run M0 _ _ (he.trans (hext.mono fun x hx => by cases hx)) ⟨he.size, ⟨#[], 0, heap_alloc_new M.w _, rfl⟩, fun hlv => by
  have := live_lt hr.ok (b := M.w.heap.size) hlv
  omega, fun hf => by have := (hr.ok.fr _ hf).1; omega⟩ hr2
 rw [hd0] at hgo
 exact hgo⟩
theorem findNow_dict (kk : IntKind) (n : Int) : ∀ (es : List MapEntry) (l : List (Int × Int)) (i : Nat), DictR es l → ∃ j, Instr.findNow (.int kk) (.int .i64 n) es i = some ((findD n l).map fun v => (j, Value.int .i64 v))
 | [], [], i, _ => ⟨0, rfl⟩
 | [], _ :: _, _, h => by simp [DictR] at h
 | _ :: _, [], _, h => by simp [DictR] at h
 | e :: es, p :: l, i, h => by
  simp only [DictR, List.map_cons, List.cons.injEq, Prod.mk.injEq] at h
  obtain ⟨⟨h1, h2⟩, h3⟩ := h
  simp only [Instr.findNow, h1, Instr.sameNow, if_true, findD]
  by_cases hn : p.1 = n
  ·subst hn
   refine ⟨i, ?_⟩
   simp [h2]
  ·rw [if_neg hn]
   have hb : (n == p.1) = false := by simp; exact fun q => hn q.symm
   rw [hb]
   exact findNow_dict kk n es l (i + 1) h3
theorem pops_lookup {x ix : Operand} {d b : Nat} {L : List (Int × Int)} {n : Int} {kk : IntKind} (hl : l.drop k = o :: r) (ho : o.op = .lookup t x ix true) (hd : o.dst = some d) (hg : o.guard = none) (hlt : Nat.ble (d + 1) s.n = true)
  (hm : P.underlying t = some (.map kt et)) (hkt : P.underlying kt = some (.int kk)) (hz : ∀ w, (zeroValue et).run P w = .ok (.int .i64 0) w) (hx : s.raw x = some (.one (.mapv b))) (hi : s.raw ix = some (.one (.int .i64 n)))
  (hk : POps P l (k + 1) K (some (b, L)) ⟨s.n, ins d (.tup [(false, [.int .i64 ((findD n L).getD 0)]), (false, [.bool (findD n L).isSome])]) s.tm, s.hp⟩) : POps P l k K (some (b, L)) s := ⟨fun M0 M a he hd1 hr => by
 have hd0 := drop_next hl
 rw [hl]
 unfold wpList
 rw [if_pos (by simp [Region.wanted, hg])]
 refine .inl ?_
 obtain ⟨hb0, ⟨es, clk, hb, hD⟩, hlv, hfr⟩ := hd1
 have hxv : a.eval x = .map (some b) := raw_sound hr hx
 have hiv : a.eval ix = .int .i64 n := VR_int (raw_sound hr hi)
 obtain ⟨j, hj⟩ := findNow_dict kk n es.toList L 0 hD
 have hck : ∀ (e : Bool) (w : World), (Instr.checkKey e 10000 kt (.int .i64 n)).run P w = .ok () w := fun e w => by
  show (Instr.checkKey e (9999 + 1) kt (.int .i64 n)).run P w = _
  unfold Instr.checkKey
  simp only [Sem.run_bind, run_underlying hkt, Result.andThen, Sem.run_pure]
 have hrun : (execOp a.eval o).run P M.w = .ok (.value (.tuple #[.int .i64 ((findD n L).getD 0), .bool (findD n L).isSome])) M.w := by
  cases hf : findD n L with
  | none =>
   rw [hf] at hj
   simp [execOp, ho, hxv, hiv, Instr.lookup, run_underlying hm, MapKept.run_getObj_map hb, hck, MapKept.run_findKey hkt hj, hz]
  | some v =>
   rw [hf] at hj
   simp [execOp, ho, hxv, hiv, Instr.lookup, run_underlying hm, MapKept.run_getObj_map hb, hck, MapKept.run_findKey hkt hj]
 unfold Oper.wp
 rw [hrun]
 have hput : putD o.dst (.tup [(false, [.int .i64 ((findD n L).getD 0)]), (false, [.bool (findD n L).isSome])]) s.n s.tm = some (ins d (.tup [(false, [.int .i64 ((findD n L).getD 0)]), (false, [.bool (findD n L).isSome])]) s.tm) := by
  rw [hd]; simp only [putD, hlt, cond_true]
 have hr2 := hr.put (dst := o.dst) (u := .tuple #[.int .i64 ((findD n L).getD 0), .bool (findD n L).isSome]) hput ⟨[.int .i64 ((findD n L).getD 0), .bool (findD n L).isSome], rfl, rfl, fun i e hi => by
  match i, hi with
  | 0, hi => cases hi; exact ⟨_, rfl, rfl⟩
  | 1, hi => cases hi; exact ⟨_, rfl, rfl⟩
  | i + 2, hi => simp at hi⟩
 have hgo := hk.run M0 M _ he ⟨hb0, ⟨es, clk, hb, hD⟩, hlv, hfr⟩ hr2
 rw [hd0] at hgo
 exact hgo⟩
theorem pops_setmap {x ix vx : Operand} {b : Nat} {L : List (Int × Int)} {n v : Int} {kk : IntKind} (hl : l.drop k = o :: r) (ho : o.op = .mapUpdate t x ix vx ∨ o.op = .insert t x ix vx) (hd : o.dst = none) (hg : o.guard = none)
  (hm : P.underlying t = some (.map kt et)) (hkt : P.underlying kt = some (.int kk)) (hx : s.raw x = some (.one (.mapv b))) (hi : s.raw ix = some (.one (.int .i64 n))) (hv : s.raw vx = some (.one (.int .i64 v))) (hnew : findD n L = none)
  (hk : POps P l (k + 1) K (some (b, L ++ [(n, v)])) s) : POps P l k K (some (b, L)) s := ⟨fun M0 M a he hd1 hr => by
 have hd0 := drop_next hl
 rw [hl]
 unfold wpList
 rw [if_pos (by simp [Region.wanted, hg])]
 refine .inl ?_
 obtain ⟨hb0, ⟨es, clk, hb, hD⟩, hlv, hfr⟩ := hd1
 have hxv : a.eval x = .map (some b) := raw_sound hr hx
 have hiv : a.eval ix = .int .i64 n := VR_int (raw_sound hr hi)
 have hvv : a.eval vx = .int .i64 v := VR_int (raw_sound hr hv)
 obtain ⟨j, hj⟩ := findNow_dict kk n es.toList L 0 hD
 rw [hnew] at hj
 have hck : ∀ (e : Bool) (w : World), (Instr.checkKey e 10000 kt (.int .i64 n)).run P w = .ok () w := fun e w => by
  show (Instr.checkKey e (9999 + 1) kt (.int .i64 n)).run P w = _
  unfold Instr.checkKey
  simp only [Sem.run_bind, run_underlying hkt, Result.andThen, Sem.run_pure]
 have hrun : (execOp a.eval o).run P M.w = .ok .skip { M.w with heap := M.w.heap.setIfInBounds b (.map (es.push { key := .int .i64 n, val := .int .i64 v, born := clk }) (clk + 1)) } := by
  rcases ho with ho | ho <;>
   simp [execOp, ho, hxv, hiv, hvv, Instr.mapUpdate, run_underlying hm, MapKept.run_getObj_map hb, hck, MapKept.run_findKey hkt hj, MapKept.run_setObj_map _ hb]
 unfold Oper.wp
 rw [hrun]
 have hset := MapKept.heap_set (o' := .map (es.push { key := .int .i64 n, val := .int .i64 v, born := clk }) (clk + 1)) hb
 have hblt : b < M.w.heap.size := (Array.getElem?_eq_some_iff.1 hb).1
 let M' : Mem := ⟨M.μ, M.H, { M.w with heap := M.w.heap.setIfInBounds b (.map (es.push { key := .int .i64 n, val := .int .i64 v, born := clk }) (clk + 1)) }, M.free⟩
 have hsame : Same M M' := ⟨rfl, rfl, fun _ q => q, fun _ q => .inl q, fun q cur e f hq => by
  have hne : q ≠ b := by rintro rfl; rw [hb] at hq; cases hq
  show (M.w.heap.setIfInBounds b _)[q]? = _
  rw [hset.2 q hne]; exact hq, fun q es clk hf hq => by
  have hne : q ≠ b := by rintro rfl; exact hfr hf
  show (M.w.heap.setIfInBounds b _)[q]? = _
  rw [hset.2 q hne]; exact hq⟩
 have hsz : M.w.heap.size ≤ M'.w.heap.size := by show _ ≤ (M.w.heap.setIfInBounds b _).size; simp
 have hr2 : Rel M' s (a.put o.dst undef) := by
  rw [hd]
  exact hsame.rel hr hsz
 have hext : Ext big M0 M' := by
  refine ⟨⟨he.os, he.tape, he.output, he.drawn, Nat.le_trans he.size hsz, fun q hq hl => ?_, fun q hq => he.free_ q hq, fun q hq => he.only q hq⟩, fun x o hX hx => ?_⟩
  ·have h1 := he.still q hq hl
   refine ⟨?_, h1.2⟩
   show (M.w.heap.setIfInBounds b _)[q]? = _
   rw [hset.2 q (by omega)]; exact h1.1
  ·obtain ⟨o1, l1, s1, n1, m1, c1⟩ := he.ids x o hX hx
   refine ⟨o1, l1, s1, n1, m1, fun q p cur e hm hc => ?_⟩
   obtain ⟨cur1, hc1, z1⟩ := c1 q p cur e hm hc
   exact ⟨cur1, hsame.cells _ _ _ _ hc1, z1⟩
 have hgo := hk.run M0 M' _ hext ⟨hb0, ⟨_, _, hset.1, by
  simp only [DictR, Array.toList_push, List.map_append, List.map_cons, List.map_nil]
  rw [show es.toList.map (fun e => (e.key, e.val)) = _ from hD]⟩, hlv, hfr⟩ hr2
 rw [hd0] at hgo
 exact hgo⟩
end
end Go.Ab
namespace Go.Ab
open Go
section
variable {P : Program} {T : Nat → Option TI} {K : Post} {s : St}
variable {L : Array Bool} {l : List Oper}
def eqBs : List Bool → List Bool → Bool
 | [], [] => true
 | a :: r, b :: q => cond a (cond b (eqBs r q) false) (cond b false (eqBs r q))
 | _, _ => false
theorem eqBs_eq : ∀ {x y : List Bool}, eqBs x y = true → x = y
 | [], [], _ => rfl
 | [], _ :: _, h => by cases h
 | _ :: _, [], h => by cases h
 | a :: r, b :: q, h => by
  cases a <;> cases b <;> simp only [eqBs, cond_true, cond_false] at h
  ·rw [eqBs_eq h]
  ·cases h
  ·cases h
  ·rw [eqBs_eq h]
def exploreTo (P : Program) (T : Nat → Option TI) (tab : Tab) (lent : Bool) (l : List Oper) (L : Array Bool) : Nat → Array Bool → List (Nat × List Prop) → St → Option (List Leaf)
 | 0, listed, cd, s => cond (eqBs listed.toList L.toList) (some [(cd, s)]) none
 | n + 1, listed, cd, s =>
  (match Region.ready .any l.toArray listed with
  | [] => none
  | j :: r =>
   (match firstU T l.toArray listed s (j :: r) with
   | some (i, cs, s') => exploreTo P T tab lent l L n (listed.setIfInBounds i true) (insC i cs cd) s'
   | none => branch (fun i => (match stepAny P T tab lent l i s with
    | some (cs, s') => exploreTo P T tab lent l L n (listed.setIfInBounds i true) (insC i cs cd) s'
    | none => none)) (j :: r)))
theorem branch_some {f : Nat → Option (List Leaf)} (hf : ∀ i x, f i = some x → ∃ y, y ∈ x) : ∀ {j : Nat} {r : List Nat} {x : List Leaf}, branch f (j :: r) = some x → ∃ y, y ∈ x := fun {j r x} h => by
 unfold branch at h
 split at h
 ·rename_i a b h1 h2
  cases h
  obtain ⟨y, hy⟩ := hf _ _ h1
  exact ⟨y, List.mem_append_left _ hy⟩
 ·cases h
theorem exploreTo_leaf {tab : Tab} {lent : Bool} : ∀ (n : Nat) (listed : Array Bool) (cd : List (Nat × List Prop)) (s : St) (ls : List Leaf), exploreTo P T tab lent l L n listed cd s = some ls → (∃ y, y ∈ ls) ∧ ∀ y ∈ ls, AllC y.1 → AllC cd := by
 intro n
 induction n with
 | zero =>
  intro listed cd s ls h
  unfold exploreTo at h
  cases he : eqBs listed.toList L.toList with
  | false => rw [he] at h; cases h
  | true =>
   rw [he] at h
   cases h
   exact ⟨⟨_, List.mem_cons_self⟩, fun y hy h => by rw [List.mem_singleton.1 hy] at h; exact h⟩
 | succ n ih =>
  intro listed cd s ls h
  unfold exploreTo at h
  split at h
  ·cases h
  ·rename_i j r hrd
   split at h
   ·obtain ⟨h1, h2⟩ := ih _ _ _ _ h
    exact ⟨h1, fun y hy hc => (AllC_ins.1 (h2 y hy hc)).2⟩
   ·have hf : ∀ i x, (match stepAny P T tab lent l i s with | some (cs, s') => exploreTo P T tab lent l L n (listed.setIfInBounds i true) (insC i cs cd) s' | none => none) = some x → (∃ y, y ∈ x) ∧ ∀ y ∈ x, AllC y.1 → AllC cd := fun i x hx => by
     split at hx
     ·obtain ⟨h1, h2⟩ := ih _ _ _ _ hx
      exact ⟨h1, fun y hy hc => (AllC_ins.1 (h2 y hy hc)).2⟩
     ·cases hx
    refine ⟨branch_some (fun i x hx => (hf i x hx).1) h, fun y hy hc => ?_⟩
    have hb : ∀ {q : List Nat} {x : List Leaf}, branch (fun i => (match stepAny P T tab lent l i s with | some (cs, s') => exploreTo P T tab lent l L n (listed.setIfInBounds i true) (insC i cs cd) s' | none => none)) q = some x → ∀ y ∈ x, AllC y.1 → AllC cd := by
     intro q
     induction q with
     | nil => intro x hx y hy _; unfold branch at hx; cases hx; cases hy
     | cons i q ihq =>
      intro x hx y hy hc
      unfold branch at hx
      split at hx
      ·rename_i a b h1 h2
       cases hx
       rcases List.mem_append.1 hy with hy | hy
       ·exact (hf _ _ h1).2 y hy hc
       ·exact ihq h2 y hy hc
      ·cases hx
    exact hb h y hy hc
theorem exploreTo_sound {tab : Tab} {lent : Bool} {m : Nat} (hT : ∀ t i, T t = some i → TF P t i) (hsel : Region.noSelect l.toArray = true) :
  ∀ (n : Nat) (listed : Array Bool) (cd : List (Nat × List Prop)) (s : St) (ls : List Leaf), exploreTo P T tab lent l L n listed cd s = some ls → (∀ y ∈ ls, AllC y.1 ∧ AAny P l K m L y.2) → AAny P l K (m + n) listed s := by
 intro n
 induction n with
 | zero =>
  intro listed cd s ls h hq
  unfold exploreTo at h
  cases he : eqBs listed.toList L.toList with
  | false => rw [he] at h; cases h
  | true =>
   rw [he] at h
   cases h
   have hl : listed = L := Array.toList_inj.1 (eqBs_eq he)
   subst hl
   exact (hq _ List.mem_cons_self).2
 | succ n ih =>
  intro listed cd s ls h hq
  refine ⟨fun M0 M a he hr => ?_⟩
  unfold exploreTo at h
  split at h
  ·cases h
  ·rename_i j r hrd
   split at h
   ·rename_i i cs s1 hf
    obtain ⟨hi, o, ho, hfree, g, c, v, hg, h1, h2, h3⟩ := firstU_sound hf
    rw [← hrd] at hi
    obtain ⟨⟨y, hy⟩, hyc⟩ := exploreTo_leaf n _ _ _ _ h
    have hcs := (AllC_ins.1 (hyc y hy (hq y hy).1)).1
    obtain ⟨u, hyl, hr1⟩ := first_yields (P := P) hT hg h1 h2 h3 hcs hr
    exact wpAny_first ho (Region.noSelect_spec hsel) (fun c a w h => by cases h.1) (m + n) listed a M.w (Region.free_spec ho hfree) hi hyl ((ih _ _ _ _ h hq).run M0 M _ he hr1)
   ·refine ⟨fun h0 => (by rw [hrd] at h0; cases h0), fun i hi => ?_⟩
    rw [hrd] at hi
    obtain ⟨x, hx, hm⟩ := branch_mem h i hi
    split at hx
    ·rename_i cs1 s1 hst
     obtain ⟨⟨y, hy⟩, hyc⟩ := exploreTo_leaf n _ _ _ _ hx
     have hcs := (AllC_ins.1 (hyc y hy (hq y (hm y hy)).1)).1
     exact stepAny_sound hT hst hcs hr fun M' a' he' hr' => (ih _ _ _ _ hx (fun z hz => hq z (hm z hz))).run M0 M' a' (he.trans he') hr'
    ·cases hx
def partCut (P : Program) (T : Nat → Option TI) (tab : Tab) (lent : Bool) (l : List Oper) (k : Nat) (listed L : Array Bool) (ks hs : List Nat) (s : St) : Option (List Leaf) :=
 match exploreTo P T tab lent l L k listed [] s with
 | some ls => some (ls.map fun y => (y.1, cutS ks hs y.2))
 | none => none
theorem aany_part {n : Nat} {listed : Array Bool} (tab : Tab) (lent : Bool) (k : Nat) (ks hs : List Nat) (q : Nat) (cs : List (Nat × List Prop)) (s' : St) (hsel : Region.noSelect l.toArray = true) (hT : ∀ t i, T t = some i → TF P t i) (h : partCut P T tab lent l k listed L ks hs s = some (List.replicate q (cs, s'))) (hc : AllC cs) (hk : AAny P l K n L s') :
  AAny P l K (n + k) listed s := by
 unfold partCut at h
 split at h
 ·rename_i ls hls
  simp only [Option.some.injEq] at h
  refine exploreTo_sound hT hsel k _ [] s ls hls (fun y hy => ?_)
  have hmem : (y.1, cutS ks hs y.2) ∈ List.replicate q (cs, s') := by
   rw [← h]
   exact List.mem_map_of_mem (f := fun y : Leaf => (y.1, cutS ks hs y.2)) hy
  have heq := List.eq_of_mem_replicate hmem
  simp only [Prod.mk.injEq] at heq
  refine ⟨by rw [heq.1]; exact hc, aany_weak (awk_cut ks hs _) ?_⟩
  rw [heq.2]
  exact hk
 ·cases h
end
end Go.Ab
namespace Go.Ab
open Go
end Go.Ab
