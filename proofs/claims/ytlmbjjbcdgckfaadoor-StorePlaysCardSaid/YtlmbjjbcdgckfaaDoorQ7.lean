/- Parts of the proof, without conditions. -/
import Derived.Test.YtlmbjjbcdgckfaaDoorAbC
import Derived.Test.YtlmbjjbcdgckfaaDoorKk
import Derived.Test.YtlmbjjbcdgckfaaDoorTab
import Derived.Test.YtlmbjjbcdgckfaaDoorQ4
import Derived.Test.YtlmbjjbcdgckfaaDoorQ2
import Derived.Test.YtlmbjjbcdgckfaaDoorQ0
import Derived.Test.YtlmbjjbcdgckfaaDoorQ3
namespace Go.Ab
open Go
theorem MOk_shiftR {M : Mem} (hM : MOk M) (id off : Nat) (c c' : C1) (h : look id M.H = some (.recs c)) (hl : off + c'.len ≤ c.len) (hz : c'.sz = c.sz) (hc : ∀ i j, i < c'.len → j < c.sz → c'.cell i j = c.cell (off + i) j) :
  MOk ⟨fun x => if x.1 = id then (M.μ x).map (fun bp => (bp.1, bp.2 + off * c.sz)) else M.μ x, ins id (.recs c') (mapV (clrO (Nat.beq id)) M.H), M.w, M.free⟩ ∧
  Ext (Nat.beq id) M ⟨fun x => if x.1 = id then (M.μ x).map (fun bp => (bp.1, bp.2 + off * c.sz)) else M.μ x, ins id (.recs c') (mapV (clrO (Nat.beq id)) M.H), M.w, M.free⟩ := by
 have hlook : ∀ (x : Key) ox, lk (ins id (.recs c') (mapV (clrO (Nat.beq id)) M.H)) x = some ox → (x = (id, none) ∧ ox = .recs c') ∨ (x.1 ≠ id ∧ ∃ o1, lk M.H x = some o1 ∧ ox = clrO (Nat.beq id) o1) := by
  intro x ox hx
  by_cases hxi : x.1 = id
  ·obtain ⟨x1, r⟩ := x
   simp only at hxi
   subst hxi
   cases r with
   | none =>
    rw [lk_ins_self] at hx
    cases hx
    exact .inl ⟨rfl, rfl⟩
   | some i => rw [lk_ins_row rfl] at hx; cases hx
  ·rw [lk_ins_ne hxi] at hx
   obtain ⟨o1, h1, rfl⟩ := lk_clr hx
   exact .inr ⟨hxi, o1, h1, rfl⟩
 have hμ : ∀ (x : Key) b q, (if x.1 = id then (M.μ x).map (fun bp => (bp.1, bp.2 + off * c.sz)) else M.μ x) = some (b, q) → ∃ q0, M.μ x = some (b, q0) ∧ (x.1 = id → q = q0 + off * c.sz) ∧ (x.1 ≠ id → q = q0) := by
  intro x b q hx
  by_cases hxi : x.1 = id
  ·rw [if_pos hxi, Option.map_eq_some_iff] at hx
   obtain ⟨⟨b0, q0⟩, h1, h2⟩ := hx
   simp only [Prod.mk.injEq] at h2
   obtain ⟨rfl, rfl⟩ := h2
   exact ⟨q0, h1, fun _ => rfl, fun hn => absurd hxi hn⟩
  ·rw [if_neg hxi] at hx
   exact ⟨q, hx, fun hn => absurd hn hxi, fun _ => rfl⟩
 have hext : Ext (Nat.beq id) M ⟨fun x => if x.1 = id then (M.μ x).map (fun bp => (bp.1, bp.2 + off * c.sz)) else M.μ x, ins id (.recs c') (mapV (clrO (Nat.beq id)) M.H), M.w, M.free⟩ := by
  refine ⟨⟨rfl, rfl, rfl, Nat.le_refl _, Nat.le_refl _, fun k hk hl' => ⟨rfl, ?_⟩, fun _ h => h, fun _ h => .inl h⟩, fun x ox hx hl' => ?_⟩
  ·rintro ⟨x, ox, q, h1, h2⟩
   obtain ⟨q0, h3, _⟩ := hμ x k q h2
   rcases hlook x ox h1 with ⟨rfl, rfl⟩ | ⟨_, o1, h4, _⟩
   ·exact hl' ⟨(id, none), _, q0, h, h3⟩
   ·exact hl' ⟨x, o1, q0, h4, h3⟩
  ·have hxi : x.1 ≠ id := by
    intro e
    rw [e, beq_self] at hx
    cases hx
   refine ⟨clrO (Nat.beq id) ox, ?_, clrO_sz _ _, by rw [clrO_len]; exact Nat.le_refl _, if_neg hxi, fun b' q cur' e' hm hc' => ⟨cur', hc', rfl⟩⟩
   show lk (ins id (.recs c') (mapV (clrO (Nat.beq id)) M.H)) x = _
   rw [lk_ins_ne hxi]
   exact lk_clr_of hM.named hx hl'
 refine ⟨⟨(hM.named.clr _).insP rfl, fun k hk => ⟨(hM.fr k hk).1, (hext.still k (hM.fr k hk).1 (hM.fr k hk).2).2⟩, fun x y ox oy b' q r hx hy hmx hmy => ?_, fun x ox hx hm => ?_, fun x ox b' q hx hm => ?_⟩, hext⟩
 ·obtain ⟨q0, m1, _⟩ := hμ x b' q hmx
  obtain ⟨r0, m2, _⟩ := hμ y b' r hmy
  have there : ∀ (x : Key) ox, lk (ins id (.recs c') (mapV (clrO (Nat.beq id)) M.H)) x = some ox → ∃ o1, lk M.H x = some o1 := by
   intro x ox hx
   rcases hlook x ox hx with ⟨rfl, _⟩ | ⟨_, o1, h4, _⟩
   ·exact ⟨_, h⟩
   ·exact ⟨o1, h4⟩
  obtain ⟨o1, h1⟩ := there x ox hx
  obtain ⟨o2, h2⟩ := there y oy hy
  exact hM.inj x y o1 o2 b' q0 r0 h1 h2 m1 m2
 ·rcases hlook x ox hx with ⟨rfl, rfl⟩ | ⟨hxi, o1, h4, rfl⟩
  ·simp only [if_pos, Option.map_eq_none_iff] at hm
   have h1 := hM.none_ (id, none) _ h hm
   have h2 : c.len = 0 := h1
   show c'.len = 0
   omega
  ·simp only [if_neg hxi] at hm
   rw [clrO_len]; exact hM.none_ x o1 h4 hm
 ·obtain ⟨q0, m1, m2, m3⟩ := hμ x b' q hm
  rcases hlook x ox hx with ⟨rfl, rfl⟩ | ⟨hxi, o1, h4, rfl⟩
  ·obtain ⟨cur1, e1, g1, g2, g3⟩ := hM.obj (id, none) _ b' q0 h m1
   have hq := m2 rfl
   refine ⟨cur1, e1, g1, ?_, fun i hi j hj => ?_⟩
   ·show q + c'.len * c'.sz ≤ cur1.size
    have g2' : q0 + c.len * c.sz ≤ cur1.size := g2
    have g4 := Nat.mul_le_mul_right c.sz hl
    rw [Nat.add_mul] at g4
    rw [hz, hq]; omega
   ·have hi' : i < c'.len := hi
    have hj' : j < c.sz := by rw [← hz]; exact hj
    have hoi : off + i < c.len := by omega
    obtain ⟨u, k1, k2, k3⟩ := g3 (off + i) hoi j hj'
    refine ⟨u, ?_, k2, ?_⟩
    ·show cur1[q + (i * c'.sz + j)]? = some u
     rw [hz, hq]
     have : q0 + ((off + i) * (Obj.recs c).sz + j) = q0 + off * c.sz + (i * c.sz + j) := by
      show q0 + ((off + i) * c.sz + j) = _
      rw [Nat.add_mul]; omega
     rw [← this]; exact k1
    ·show VR _ (c'.cell i j) u
     rw [hc i j hi' hj']
     have := VR_ext hext k3
     have hcl : clrV (Nat.beq id) ((Obj.recs c).cell (off + i) j) = c.cell (off + i) j := by
      have := clrO_cell (Nat.beq id) (.recs c) (off + i) j
      exact this.symm
     rw [hcl] at this
     exact this
  ·obtain ⟨cur1, e1, g1, g2, g3⟩ := hM.obj x o1 b' q0 h4 m1
   have hq := m3 hxi
   subst hq
   refine ⟨cur1, e1, g1, by rw [clrO_len, clrO_sz]; exact g2, fun i hi j hj => ?_⟩
   rw [clrO_len] at hi
   rw [clrO_sz] at hj ⊢
   obtain ⟨u, k1, k2, k3⟩ := g3 i hi j hj
   exact ⟨u, k1, k2, by rw [clrO_cell]; exact VR_ext hext k3⟩
theorem awk_shiftR (id d off len : Nat) (c c' : C1) (s : St) (h : look id s.hp = some (.recs c)) (hd : look d s.tm = some (.one (.rw id off len))) (hb : big id = true) (hl : off + c'.len = c.len) (hz : c'.sz = c.sz) (hc : ∀ i j, i < c'.len → j < c.sz → c'.cell i j = c.cell (off + i) j) :
  AWk s ⟨s.n, ins d (.one (.rw id 0 len)) (mapV (clrA (Nat.beq id)) s.tm), ins id (.recs c') (mapV (clrO (Nat.beq id)) s.hp)⟩ := fun M a hr => by
 rw [← hr.hp] at h ⊢
 obtain ⟨h1, h2⟩ := MOk_shiftR hr.ok id off c c' h (Nat.le_of_eq hl) hz hc
 have h3 := hr.step rfl h1 h2
 refine ⟨_, ⟨rfl, h1, hr.defers, hr.size, fun e x he => ?_⟩, rfl, h2.mono (fun x hx => by have := Nat.eq_of_beq_eq_true hx; subst this; exact hb)⟩
 have he' : look e (ins d (.one (.rw id 0 len)) (mapV (clrA (Nat.beq id)) s.tm)) = some x := he
 rw [look_ins] at he'
 by_cases hed : e = d
 ·rw [if_pos hed] at he'
  cases he'
  subst hed
  obtain ⟨u, hu, hv⟩ := hr.tm e _ hd
  refine ⟨u, hu, ?_⟩
  obtain ⟨o1, k1, k2, k3⟩ := hv
  rw [lk_none, h] at k1
  cases k1
  have k2' : off + len ≤ c.len := k2
  refine ⟨.recs c', lk_ins_self _ _ _, by show 0 + len ≤ c'.len; omega, ?_⟩
  rcases k3 with k3 | ⟨b, p, a0, cap, m1, m2, m3, m4, m5, cur, e0, m6, m7⟩
  ·exact .inl k3
  ·refine .inr ⟨b, p + off * c.sz, a0, cap, by simp [m1], m2, m3, m4, ?_, cur, e0, m6, ?_⟩
   ·show a0 = p + off * c.sz + 0 * c'.sz
    rw [m5]; show p + off * c.sz = _; omega
   ·show p + off * c.sz + (0 + cap) * c'.sz ≤ cur.size
    have m7' : p + (off + cap) * c.sz ≤ cur.size := m7
    rw [Nat.add_mul] at m7'
    rw [hz, Nat.zero_add]; omega
 ·rw [if_neg hed] at he'
  exact h3.tm e x he'
theorem awk_truncR (id d off len : Nat) (c c' : C1) (s : St) (h : look id s.hp = some (.recs c)) (hd : look d s.tm = some (.one (.rw id off len))) (hb : big id = true) (hl : off + c'.len ≤ c.len) (hle : len ≤ c'.len) (hz : c'.sz = c.sz) (hc : ∀ i j, i < c'.len → j < c.sz → c'.cell i j = c.cell (off + i) j) :
  AWk s ⟨s.n, ins d (.one (.rw id 0 len)) (mapV (clrA (Nat.beq id)) s.tm), ins id (.recs c') (mapV (clrO (Nat.beq id)) s.hp)⟩ := fun M a hr => by
 rw [← hr.hp] at h ⊢
 obtain ⟨h1, h2⟩ := MOk_shiftR hr.ok id off c c' h hl hz hc
 have h3 := hr.step rfl h1 h2
 refine ⟨_, ⟨rfl, h1, hr.defers, hr.size, fun e x he => ?_⟩, rfl, h2.mono (fun x hx => by have := Nat.eq_of_beq_eq_true hx; subst this; exact hb)⟩
 have he' : look e (ins d (.one (.rw id 0 len)) (mapV (clrA (Nat.beq id)) s.tm)) = some x := he
 rw [look_ins] at he'
 by_cases hed : e = d
 ·rw [if_pos hed] at he'
  cases he'
  subst hed
  obtain ⟨u, hu, hv⟩ := hr.tm e _ hd
  refine ⟨u, hu, ?_⟩
  obtain ⟨o1, k1, k2, k3⟩ := hv
  rw [lk_none, h] at k1
  cases k1
  have k2' : off + len ≤ c.len := k2
  refine ⟨.recs c', lk_ins_self _ _ _, by show 0 + len ≤ c'.len; omega, ?_⟩
  rcases k3 with k3 | ⟨b, p, a0, cap, m1, m2, m3, m4, m5, cur, e0, m6, m7⟩
  ·exact .inl k3
  ·refine .inr ⟨b, p + off * c.sz, a0, cap, by simp [m1], m2, m3, m4, ?_, cur, e0, m6, ?_⟩
   ·show a0 = p + off * c.sz + 0 * c'.sz
    rw [m5]; show p + off * c.sz = _; omega
   ·show p + off * c.sz + (0 + cap) * c'.sz ≤ cur.size
    have m7' : p + (off + cap) * c.sz ≤ cur.size := m7
    rw [Nat.add_mul] at m7'
    rw [hz, Nat.zero_add]; omega
 ·rw [if_neg hed] at he'
  exact h3.tm e x he'
theorem dropS_ok {xs : List Sta} {off : Nat} (h : off ≤ xs.length) : off + (C1.stas (xs.drop off)).len = (C1.stas xs).len ∧ ∀ i j, i < (C1.stas (xs.drop off)).len → j < (C1.stas xs).sz → (C1.stas (xs.drop off)).cell i j = (C1.stas xs).cell (off + i) j := by
 refine ⟨by simp only [C1.len, List.length_drop]; omega, fun i j _ _ => ?_⟩
 simp only [C1.cell]
 rw [List.getD_eq_getElem?_getD, List.getElem?_drop, ← List.getD_eq_getElem?_getD]
theorem takeS_ok {xs : List Sta} {n : Nat} (h : n ≤ xs.length) : (0 + (C1.stas (xs.take n)).len ≤ (C1.stas xs).len ∧ n ≤ (C1.stas (xs.take n)).len) ∧ ∀ i j, i < (C1.stas (xs.take n)).len → j < (C1.stas xs).sz → (C1.stas (xs.take n)).cell i j = (C1.stas xs).cell (0 + i) j := by
 refine ⟨by simp only [C1.len, List.length_take]; omega, fun i j hi _ => ?_⟩
 simp only [C1.len, List.length_take] at hi
 simp only [C1.cell]
 rw [Nat.zero_add, List.getD_eq_getElem?_getD, List.getElem?_take_of_lt (by omega), ← List.getD_eq_getElem?_getD]
end Go.Ab
set_option maxRecDepth 100000
namespace Go.Ab
open Go Go.Proofs
abbrev Zbn0 (a0 : Int) (a1 : Int) (a2 : Int) (a3 : List Arc) (a4 : List Int) (a5 : List Sta) (a6 : List ByteArray) (a7 : List Sta) := ((1, .box 1 8 [(.i a0), (.i a1), (.i a2), (.ro (.arcs a3)), (.ro (.ints .i64 a4)), (.w 9002 a5.length), (.w 9003 a6.length), (.w 9004 a7.length)]) : Nat × Obj)
abbrev Zbn3 (a0 : Int) (a1 : Int) (a2 : Int) (a3 : List Arc) := ((105, .box 1 4 [(.i a0), (.i a1), (.i a2), (.ro (.arcs a3))]) : Nat × Obj)
abbrev Zbn4 (a0 : Int) (a1 : Int) (a2 : Int) (a3 : List Arc) (a4 : List Int) (a5 : List Sta) (a6 : List ByteArray) (a7 : List Sta) := ((1, .box 1 8 [(.i a0), (.i a1), (.i a2), (.ro (.arcs a3)), (.ro (.ints .i64 a4)), (.w 9002 (a5.length + 1)), (.w 9003 a6.length), (.w 9004 a7.length)]) : Nat × Obj)
abbrev Zbn1 (a0 : Int) (a1 : Int) (a2 : Int) (a3 : List Arc) (a4 : List Int) (a5 : List Sta) (a6 : List ByteArray) (a7 : List Sta) (a8 : Int) (a9 : Int) (a10 : Int) (a11 : List Arc) := ([(Zbn4 a0 a1 a2 a3 a4 a5 a6 a7), (Zbn3 a8 a9 a10 a11), (9002, .recs (.stas (a5 ++ [⟨a0, a1, a2, a3, a4⟩]))), (9003, .flat (.strs a6)), (9004, .recs (.stas a7))] : List (Nat × Obj))
abbrev Zbn7 (a0 : List Sta) := ((.w 9002 ((a0.length + 1) - 1)) : V1)
abbrev Zbn2 (a0 : Int) (a1 : Int) (a2 : Int) (a3 : List Arc) (a4 : List Int) (a5 : List Sta) (a6 : List ByteArray) (a7 : List Sta) := ((1, .box 1 8 [(.i a0), (.i a1), (.i a2), (.ro (.arcs a3)), (.ro (.ints .i64 a4)), (Zbn7 a5), (.w 9003 a6.length), (.w 9004 a7.length)]) : Nat × Obj)
abbrev Zbn5 (a0 : List Sta) (a1 : Int) (a2 : Int) (a3 : Int) (a4 : List Arc) (a5 : List Int) := ((9002, .recs (.stas (List.drop 1 (a0 ++ [⟨a1, a2, a3, a4, a5⟩])))) : Nat × Obj)
abbrev Zbn6 := ((.tup [(false, [(.i 0)]), (false, [(.i 0)])]) : AV)
abbrev Zbn8 := ([(8, .i 0), (9, .i 0)] : List (Nat × AV))
abbrev Zbn9 (a0 : List Int) := ((2, .one (.ro (.ints .i64 a0))) : Nat × AV)
abbrev Zbn10 (a0 : Int) (a1 : Int) (a2 : Int) (a3 : List Arc) (a4 : List Sta) (a5 : List ByteArray) (a6 : List Sta) (a7 : Int) (a8 : Int) (a9 : Int) (a10 : List Arc) (a11 : List Int) := ([(1, .box 1 8 [(.i a0), (.i a1), (.i a2), (.ro (.arcs a3)), (.ro (.ints .i64 [])), (.w 9002 (a4.length + 1)), (.w 9003 a5.length), (.w 9004 a6.length)]), (9002, .recs (.stas (a4 ++ [⟨a7, a8, a9, a10, a11⟩]))), (9003, .flat (.strs a5)), (9004, .recs (.stas a6))] : List (Nat × Obj))
theorem store_set (n s t : Int) (es : List Arc) (f : List Int) (O : List Sta) (N : List ByteArray) (V : List Sta) (n2 s2 t2 : Int) (es2 : List Arc) (f2 : List Int) (e : Int) (hO : O.length ≤ 20) : ACall Tryd.prog 12 [.p 1, .agg [(.i n2), (.i s2), (.i t2), (.ro (.arcs es2))], .one (.ro (.ints .i64 f2)), .i e] [(Zbn0 n s t es f O N V), (9002, .recs (.stas O)), (9003, .flat (.strs N)), (9004, .recs (.stas V))] (fun ov oh => ∃ (n9 s9 t9 : Int) (es9 : List Arc) (f9 : List Int) (O9 : List Sta), (SetR n s t es f O n2 s2 t2 es2 f2 e n9 s9 t9 es9 f9 O9) ∧ ov = .tup [(false, [(.i 0)]), (false, [(.i e)])] ∧ oh = [(Zbn0 n9 s9 t9 es9 f9 O9 N V), (9002, .recs (.stas O9)), (9003, .flat (.strs N)), (9004, .recs (.stas V))]) := by
 refine acall_intro hT Tryd.func12 rfl (by kernel_rfl) rfl (by kernel_rfl) ?_
 refine kq [] ⟨46, [(0, .p 1), (Zbn9 f2), (3, .i e), (5, .p 105)], [(Zbn0 n s t es f O N V), (Zbn3 n2 s2 t2 es2), (9002, .recs (.stas O)), (9003, .flat (.strs N)), (9004, .recs (.stas V))]⟩ hT (by kernel_rfl) trivial ?_
 refine awp_seq ?_
 refine kq [] ⟨46, [(0, .p 1), (Zbn9 f2), (3, .i e), (5, .p 105), (11, .one (.bool (decide (e ≠ 0))))], [(Zbn0 n s t es f O N V), (Zbn3 n2 s2 t2 es2), (9002, .recs (.stas O)), (9003, .flat (.strs N)), (9004, .recs (.stas V))]⟩ hT (by kernel_rfl) trivial ?_
 refine awp_cond (b := (decide (e ≠ 0))) (by kernel_rfl) (fun c1 => ?_) (fun c1 => ?_)
 ·
  try simp only [bs] at c1
  refine kq [] ⟨46, [(8, .i 0), (9, .i e)], [(Zbn0 n s t es f O N V), (9002, .recs (.stas O)), (9003, .flat (.strs N)), (9004, .recs (.stas V))]⟩ hT (by kernel_rfl) trivial ?_
  refine awp_ret ?_
  refine kRet.ret _ [9002, 9003, 9004] [] (.tup [(false, [(.i 0)]), (false, [(.i e)])]) [(Zbn0 n s t es f O N V), (9002, .recs (.stas O)), (9003, .flat (.strs N)), (9004, .recs (.stas V))] (by kernel_rfl) trivial ?_
  exact ⟨n, s, t, es, f, O, (by first | exact .err (by omega) | (exact .one (by omega) (by omega) (by first | omega | (simp only [lens] at *; omega))) | exact .all (by omega) (by first | omega | (simp only [lens] at *; omega))), (by kernel_rfl), (by kernel_rfl)⟩
 ·
  try simp only [bs] at c1
  refine awp_skip ?_
  refine awp_seq (awp_any [] false [0, 2, 5] [105, 9002, 9003, 9004] 10 [(0, []), (1, []), (2, []), (3, []), (4, [(0 < 1)]), (5, []), (6, []), (7, []), (8, [(0 < 1)]), (9, []), (10, [(O.length = O.length), ((O.length + 1) * 72 ≤ 140737488355328), ((O.length + 1) ≤ 9223372036854775807)]), (11, []), (12, []), (13, [(0 < 1)])] ⟨46, [(0, .p 1), (Zbn9 f2), (5, .p 105)], (Zbn1 n s t es f O N V n2 s2 t2 es2)⟩ (by kernel_rfl) (by kernel_rfl) hT (by kernel_rfl) ⟨trivial, trivial, trivial, trivial, ⟨(by decide), trivial⟩, trivial, trivial, trivial, ⟨(by decide), trivial⟩, trivial, ⟨(by omega), (by omega), (by omega), trivial⟩, trivial, trivial, ⟨(by decide), trivial⟩, trivial⟩ ?_)
  refine awp_seq ?_
  refine kq [(0 < 1)] ⟨46, [(0, .p 1), (Zbn9 f2), (5, .p 105), (31, .one (.bool (decide ((20 : Int) < (((O.length + 1) : Nat) : Int)))))], (Zbn1 n s t es f O N V n2 s2 t2 es2)⟩ hT (by kernel_rfl) ⟨(by decide), trivial⟩ ?_
  refine awp_cond (b := (decide ((20 : Int) < (((O.length + 1) : Nat) : Int)))) (by kernel_rfl) (fun c4 => ?_) (fun c4 => ?_)
  ·
   try simp only [bs] at c4
   refine awp_region ?_
   refine ko 8 [(0 < 1), ((0 : Int) ≤ 1), ((1 : Int) ≤ (((O.length + 1) : Nat) : Int)), ((((O.length + 1) : Nat) : Int) ≤ (((O.length + 1) : Nat) : Int))] ⟨46, [(0, .p 1), (Zbn9 f2), (5, .p 105), (37, .one (.rw 9002 1 ((O.length + 1) - 1))), (39, .one (.ptr 1 0 5))], (Zbn1 n s t es f O N V n2 s2 t2 es2)⟩ hT (by kernel_rfl) (by kernel_rfl) ⟨(by decide), (by omega), (by omega), (by omega), trivial⟩ ?_
   refine aops_weak (awk_shiftR 9002 37 1 ((O.length + 1) - 1) (.stas (O ++ [⟨n, s, t, es, f⟩])) (.stas (List.drop 1 (O ++ [⟨n, s, t, es, f⟩]))) _ (by kernel_rfl) (by kernel_rfl) (by decide) (dropS_ok (by first | omega | (simp only [lens]; omega) | (simp only [Bool.cond_decide]; omega) | (simp only [nadd_eq]; omega))).1 rfl (dropS_ok (by first | omega | (simp only [lens]; omega) | (simp only [Bool.cond_decide]; omega) | (simp only [nadd_eq]; omega))).2) ?_
   refine ku ⟨46, [(0, .p 1), (Zbn9 f2), (5, .p 105), (37, .one (Zbn7 O)), (39, .one (.ptr 1 0 5))], [(1, .box 1 8 [(.i n), (.i s), (.i t), (.ro (.arcs es)), (.ro (.ints .i64 f)), .any, (.w 9003 N.length), (.w 9004 V.length)]), (Zbn3 n2 s2 t2 es2), (Zbn5 O n s t es f), (9003, .flat (.strs N)), (9004, .recs (.stas V))]⟩ (by kernel_rfl) ?_
   refine ko 1 [(0 < 1)] ⟨46, [(0, .p 1), (Zbn9 f2), (5, .p 105)], [(Zbn2 n s t es f O N V), (Zbn3 n2 s2 t2 es2), (Zbn5 O n s t es f), (9003, .flat (.strs N)), (9004, .recs (.stas V))]⟩ hT (by kernel_rfl) (by kernel_rfl) ⟨(by decide), trivial⟩ ?_
   refine aops_end (by kernel_rfl) ?_
   refine kq [(0 < 1), (0 < 1)] ⟨46, [], [(Zbn2 n2 s2 t2 es2 f2 O N V), (Zbn5 O n s t es f), (9003, .flat (.strs N)), (9004, .recs (.stas V))]⟩ hT (by kernel_rfl) ⟨(by decide), (by decide), trivial⟩ ?_
   refine kq [] ⟨46, Zbn8, [(Zbn2 n2 s2 t2 es2 f2 O N V), (Zbn5 O n s t es f), (9003, .flat (.strs N)), (9004, .recs (.stas V))]⟩ hT (by kernel_rfl) trivial ?_
   refine awp_ret ?_
   refine kRet.ret _ [9002, 9003, 9004] [] Zbn6 [(Zbn2 n2 s2 t2 es2 f2 O N V), (Zbn5 O n s t es f), (9003, .flat (.strs N)), (9004, .recs (.stas V))] (by kernel_rfl) trivial ?_
   exact ⟨n2, s2, t2, es2, f2, (List.drop 1 (O ++ [⟨n, s, t, es, f⟩])), (by first | exact .err (by omega) | (exact .one (by omega) (by omega) (by first | omega | (simp only [lens] at *; omega))) | exact .all (by omega) (by first | omega | (simp only [lens] at *; omega))), (by rw [show e = 0 by omega]), (by (simp; done))⟩
  ·
   try simp only [bs] at c4
   refine awp_skip ?_
   refine kq [(0 < 1), (0 < 1)] ⟨46, [], [(Zbn4 n2 s2 t2 es2 f2 O N V), (9002, .recs (.stas (O ++ [⟨n, s, t, es, f⟩]))), (9003, .flat (.strs N)), (9004, .recs (.stas V))]⟩ hT (by kernel_rfl) ⟨(by decide), (by decide), trivial⟩ ?_
   refine kq [] ⟨46, Zbn8, [(Zbn4 n2 s2 t2 es2 f2 O N V), (9002, .recs (.stas (O ++ [⟨n, s, t, es, f⟩]))), (9003, .flat (.strs N)), (9004, .recs (.stas V))]⟩ hT (by kernel_rfl) trivial ?_
   refine awp_ret ?_
   refine kRet.ret _ [9002, 9003, 9004] [] Zbn6 [(Zbn4 n2 s2 t2 es2 f2 O N V), (9002, .recs (.stas (O ++ [⟨n, s, t, es, f⟩]))), (9003, .flat (.strs N)), (9004, .recs (.stas V))] (by kernel_rfl) trivial ?_
   exact ⟨n2, s2, t2, es2, f2, (O ++ [⟨n, s, t, es, f⟩]), (by first | exact .err (by omega) | (exact .one (by omega) (by omega) (by first | omega | (simp only [lens] at *; omega))) | exact .all (by omega) (by first | omega | (simp only [lens] at *; omega))), (by rw [show e = 0 by omega]), (by (simp; done))⟩
theorem store_set0 (n s t : Int) (es : List Arc) (f : List Int) (O : List Sta) (N : List ByteArray) (V : List Sta) (n2 s2 t2 : Int) (es2 : List Arc) (e : Int) (hO : O.length ≤ 20) : ACall Tryd.prog 12 [.p 1, .agg [(.i n2), (.i s2), (.i t2), (.ro (.arcs es2))], .one .nils, .i e] [(Zbn0 n s t es f O N V), (9002, .recs (.stas O)), (9003, .flat (.strs N)), (9004, .recs (.stas V))] (fun ov oh => ∃ (n9 s9 t9 : Int) (es9 : List Arc) (f9 : List Int) (O9 : List Sta), (SetR n s t es f O n2 s2 t2 es2 [] e n9 s9 t9 es9 f9 O9) ∧ ov = .tup [(false, [(.i 0)]), (false, [(.i e)])] ∧ oh = [(Zbn0 n9 s9 t9 es9 f9 O9 N V), (9002, .recs (.stas O9)), (9003, .flat (.strs N)), (9004, .recs (.stas V))]) := by
 refine acall_intro hT Tryd.func12 rfl (by kernel_rfl) rfl (by kernel_rfl) ?_
 refine kq [] ⟨46, [(0, .p 1), (2, .one .nils), (3, .i e), (5, .p 105)], [(Zbn0 n s t es f O N V), (Zbn3 n2 s2 t2 es2), (9002, .recs (.stas O)), (9003, .flat (.strs N)), (9004, .recs (.stas V))]⟩ hT (by kernel_rfl) trivial ?_
 refine awp_seq ?_
 refine kq [] ⟨46, [(0, .p 1), (2, .one .nils), (3, .i e), (5, .p 105), (11, .one (.bool (decide (e ≠ 0))))], [(Zbn0 n s t es f O N V), (Zbn3 n2 s2 t2 es2), (9002, .recs (.stas O)), (9003, .flat (.strs N)), (9004, .recs (.stas V))]⟩ hT (by kernel_rfl) trivial ?_
 refine awp_cond (b := (decide (e ≠ 0))) (by kernel_rfl) (fun c1 => ?_) (fun c1 => ?_)
 ·
  try simp only [bs] at c1
  refine kq [] ⟨46, [(8, .i 0), (9, .i e)], [(Zbn0 n s t es f O N V), (9002, .recs (.stas O)), (9003, .flat (.strs N)), (9004, .recs (.stas V))]⟩ hT (by kernel_rfl) trivial ?_
  refine awp_ret ?_
  refine kRet.ret _ [9002, 9003, 9004] [] (.tup [(false, [(.i 0)]), (false, [(.i e)])]) [(Zbn0 n s t es f O N V), (9002, .recs (.stas O)), (9003, .flat (.strs N)), (9004, .recs (.stas V))] (by kernel_rfl) trivial ?_
  exact ⟨n, s, t, es, f, O, (by first | exact .err (by omega) | (exact .one (by omega) (by omega) (by first | omega | (simp only [lens] at *; omega))) | exact .all (by omega) (by first | omega | (simp only [lens] at *; omega))), (by kernel_rfl), (by kernel_rfl)⟩
 ·
  try simp only [bs] at c1
  refine awp_skip ?_
  refine awp_seq (awp_any [] false [0, 2, 5] [105, 9002, 9003, 9004] 10 [(0, []), (1, []), (2, []), (3, []), (4, [(0 < 1)]), (5, []), (6, []), (7, []), (8, [(0 < 1)]), (9, []), (10, [(O.length = O.length), ((O.length + 1) * 72 ≤ 140737488355328), ((O.length + 1) ≤ 9223372036854775807)]), (11, []), (12, []), (13, [(0 < 1)])] ⟨46, [(0, .p 1), (2, .one .nils), (5, .p 105)], (Zbn1 n s t es f O N V n2 s2 t2 es2)⟩ (by kernel_rfl) (by kernel_rfl) hT (by kernel_rfl) ⟨trivial, trivial, trivial, trivial, ⟨(by decide), trivial⟩, trivial, trivial, trivial, ⟨(by decide), trivial⟩, trivial, ⟨(by omega), (by omega), (by omega), trivial⟩, trivial, trivial, ⟨(by decide), trivial⟩, trivial⟩ ?_)
  refine awp_seq ?_
  refine kq [(0 < 1)] ⟨46, [(0, .p 1), (2, .one .nils), (5, .p 105), (31, .one (.bool (decide ((20 : Int) < (((O.length + 1) : Nat) : Int)))))], (Zbn1 n s t es f O N V n2 s2 t2 es2)⟩ hT (by kernel_rfl) ⟨(by decide), trivial⟩ ?_
  refine awp_cond (b := (decide ((20 : Int) < (((O.length + 1) : Nat) : Int)))) (by kernel_rfl) (fun c4 => ?_) (fun c4 => ?_)
  ·
   try simp only [bs] at c4
   refine awp_region ?_
   refine ko 8 [(0 < 1), ((0 : Int) ≤ 1), ((1 : Int) ≤ (((O.length + 1) : Nat) : Int)), ((((O.length + 1) : Nat) : Int) ≤ (((O.length + 1) : Nat) : Int))] ⟨46, [(0, .p 1), (2, .one .nils), (5, .p 105), (37, .one (.rw 9002 1 ((O.length + 1) - 1))), (39, .one (.ptr 1 0 5))], (Zbn1 n s t es f O N V n2 s2 t2 es2)⟩ hT (by kernel_rfl) (by kernel_rfl) ⟨(by decide), (by omega), (by omega), (by omega), trivial⟩ ?_
   refine aops_weak (awk_shiftR 9002 37 1 ((O.length + 1) - 1) (.stas (O ++ [⟨n, s, t, es, f⟩])) (.stas (List.drop 1 (O ++ [⟨n, s, t, es, f⟩]))) _ (by kernel_rfl) (by kernel_rfl) (by decide) (dropS_ok (by first | omega | (simp only [lens]; omega) | (simp only [Bool.cond_decide]; omega) | (simp only [nadd_eq]; omega))).1 rfl (dropS_ok (by first | omega | (simp only [lens]; omega) | (simp only [Bool.cond_decide]; omega) | (simp only [nadd_eq]; omega))).2) ?_
   refine ku ⟨46, [(0, .p 1), (2, .one .nils), (5, .p 105), (37, .one (Zbn7 O)), (39, .one (.ptr 1 0 5))], [(1, .box 1 8 [(.i n), (.i s), (.i t), (.ro (.arcs es)), (.ro (.ints .i64 f)), .any, (.w 9003 N.length), (.w 9004 V.length)]), (Zbn3 n2 s2 t2 es2), (Zbn5 O n s t es f), (9003, .flat (.strs N)), (9004, .recs (.stas V))]⟩ (by kernel_rfl) ?_
   refine ko 1 [(0 < 1)] ⟨46, [(0, .p 1), (2, .one .nils), (5, .p 105)], [(Zbn2 n s t es f O N V), (Zbn3 n2 s2 t2 es2), (Zbn5 O n s t es f), (9003, .flat (.strs N)), (9004, .recs (.stas V))]⟩ hT (by kernel_rfl) (by kernel_rfl) ⟨(by decide), trivial⟩ ?_
   refine aops_end (by kernel_rfl) ?_
   refine kq [(0 < 1), (0 < 1)] ⟨46, [], [(1, .box 1 8 [(.i n2), (.i s2), (.i t2), (.ro (.arcs es2)), .nils, (Zbn7 O), (.w 9003 N.length), (.w 9004 V.length)]), (Zbn5 O n s t es f), (9003, .flat (.strs N)), (9004, .recs (.stas V))]⟩ hT (by kernel_rfl) ⟨(by decide), (by decide), trivial⟩ ?_
   refine awp_weak (awk_boxcell 1 4 1 8 [(.i n2), (.i s2), (.i t2), (.ro (.arcs es2)), .nils, (Zbn7 O), (.w 9003 N.length), (.w 9004 V.length)] (.nils) ((.ro (.ints .i64 []))) _ (by kernel_rfl) rfl (wkv_nil0 rfl)) ?_
   refine kq [] ⟨46, Zbn8, [(1, .box 1 8 [(.i n2), (.i s2), (.i t2), (.ro (.arcs es2)), (.ro (.ints .i64 [])), (Zbn7 O), (.w 9003 N.length), (.w 9004 V.length)]), (Zbn5 O n s t es f), (9003, .flat (.strs N)), (9004, .recs (.stas V))]⟩ hT (by kernel_rfl) trivial ?_
   refine awp_ret ?_
   refine kRet.ret _ [9002, 9003, 9004] [] Zbn6 [(1, .box 1 8 [(.i n2), (.i s2), (.i t2), (.ro (.arcs es2)), (.ro (.ints .i64 [])), (Zbn7 O), (.w 9003 N.length), (.w 9004 V.length)]), (Zbn5 O n s t es f), (9003, .flat (.strs N)), (9004, .recs (.stas V))] (by kernel_rfl) trivial ?_
   exact ⟨n2, s2, t2, es2, [], (List.drop 1 (O ++ [⟨n, s, t, es, f⟩])), (by first | exact .err (by omega) | (exact .one (by omega) (by omega) (by first | omega | (simp only [lens] at *; omega))) | exact .all (by omega) (by first | omega | (simp only [lens] at *; omega))), (by rw [show e = 0 by omega]), (by (simp; done))⟩
  ·
   try simp only [bs] at c4
   refine awp_skip ?_
   refine kq [(0 < 1), (0 < 1)] ⟨46, [], [(1, .box 1 8 [(.i n2), (.i s2), (.i t2), (.ro (.arcs es2)), .nils, (.w 9002 (O.length + 1)), (.w 9003 N.length), (.w 9004 V.length)]), (9002, .recs (.stas (O ++ [⟨n, s, t, es, f⟩]))), (9003, .flat (.strs N)), (9004, .recs (.stas V))]⟩ hT (by kernel_rfl) ⟨(by decide), (by decide), trivial⟩ ?_
   refine awp_weak (awk_boxcell 1 4 1 8 [(.i n2), (.i s2), (.i t2), (.ro (.arcs es2)), .nils, (.w 9002 (O.length + 1)), (.w 9003 N.length), (.w 9004 V.length)] (.nils) ((.ro (.ints .i64 []))) _ (by kernel_rfl) rfl (wkv_nil0 rfl)) ?_
   refine kq [] ⟨46, Zbn8, (Zbn10 n2 s2 t2 es2 O N V n s t es f)⟩ hT (by kernel_rfl) trivial ?_
   refine awp_ret ?_
   refine kRet.ret _ [9002, 9003, 9004] [] Zbn6 (Zbn10 n2 s2 t2 es2 O N V n s t es f) (by kernel_rfl) trivial ?_
   exact ⟨n2, s2, t2, es2, [], (O ++ [⟨n, s, t, es, f⟩]), (by first | exact .err (by omega) | (exact .one (by omega) (by omega) (by first | omega | (simp only [lens] at *; omega))) | exact .all (by omega) (by first | omega | (simp only [lens] at *; omega))), (by rw [show e = 0 by omega]), (by (simp; done))⟩
end Go.Ab
set_option maxRecDepth 100000
namespace Go.Ab
open Go Go.Proofs
abbrev Zbo0 (a0 : List ByteArray) := ((7, .i ((a0.length : Nat) : Int)) : Nat × AV)
abbrev Zbo1 (a0 : List ByteArray) := ((0, .w 1 a0.length) : Nat × AV)
theorem index_str (N : List ByteArray) (w : ByteArray) (hN : N.length ≤ 4) : ACall Tryd.prog 36 [.w 1 N.length, .one (.str w)] [(1, .flat (.strs N))] (fun ov oh => ∃ (r9 : Int), (IdxR N w r9) ∧ ov = .i r9 ∧ oh = [(1, .flat (.strs N))]) := by
 refine acall_intro hT Tryd.func36 rfl (by kernel_rfl) rfl (by kernel_rfl) ?_
 refine kq [] ⟨19, [(Zbo1 N), (1, .one (.str w))], [(1, .flat (.strs N))]⟩ hT (by kernel_rfl) trivial ?_
 refine awp_seq ?_
 refine kq [] ⟨19, [(Zbo1 N), (1, .one (.str w)), (Zbo0 N), (8, .i 0)], [(1, .flat (.strs N))]⟩ hT (by kernel_rfl) trivial ?_
 refine awp_block ?_
 refine awp_loop (I := fun κ σ => ∃ (k : Nat), ((k ≤ N.length) ∧ (∀ j, j < k → N.getD j ByteArray.empty ≠ w) ∧ N.length - k = κ) ∧ σ = ⟨19, [(Zbo1 N), (1, .one (.str w)), (Zbo0 N), (8, .i (k : Int))], [(1, .flat (.strs N))]⟩) _ ⟨0, ⟨(by omega), (by intro j hj; omega), rfl⟩, (by kernel_rfl)⟩ ?_
 rintro κ _ ⟨k, ⟨hk, hn, rfl⟩, rfl⟩
 refine kq [] ⟨19, [(Zbo1 N), (1, .one (.str w)), (Zbo0 N), (8, .i (k : Int)), (9, .one (.bool (decide ((k : Int) < ((N.length : Nat) : Int)))))], [(1, .flat (.strs N))]⟩ hT (by kernel_rfl) trivial ?_
 refine awp_seq ?_
 refine awp_cond (b := (decide ((k : Int) < ((N.length : Nat) : Int)))) (by kernel_rfl) (fun c2 => ?_) (fun c2 => ?_)
 ·
  try simp only [bs] at c2
  refine awp_skip ?_
  refine awp_seq ?_
  refine awp_block ?_
  refine kq [] ⟨19, [(Zbo1 N), (1, .one (.str w)), (5, .i (k : Int)), (Zbo0 N), (8, .i (k : Int))], [(1, .flat (.strs N))]⟩ hT (by kernel_rfl) trivial ?_
  refine kq [((0 : Int) ≤ (k : Int)), ((k : Int) < ((N.length : Nat) : Int)), (k < N.length)] ⟨19, [(Zbo1 N), (1, .one (.str w)), (5, .i (k : Int)), (Zbo0 N), (8, .i (k : Int)), (16, .one (.bool (w == (List.getD N k ByteArray.empty))))], [(1, .flat (.strs N))]⟩ hT (by kernel_rfl) ⟨(by omega), (by omega), (by omega), trivial⟩ ?_
  refine awp_cond (b := (w == (List.getD N k ByteArray.empty))) (by kernel_rfl) (fun c4 => ?_) (fun c4 => ?_)
  ·
   try simp only [bs] at c4
   refine kq [] ⟨19, [(4, .i (k : Int))], [(1, .flat (.strs N))]⟩ hT (by kernel_rfl) trivial ?_
   refine awp_ret ?_
   refine kRet.ret _ [] [] (.i (k : Int)) [(1, .flat (.strs N))] (by kernel_rfl) trivial ?_
   exact ⟨(k : Int), (by exact .at_ (by omega) (bytes_beq.1 c4).symm), (by kernel_rfl), (by kernel_rfl)⟩
  ·
   try simp only [bs] at c4
   refine awp_skip ?_
   refine kr [(-9223372036854775808 ≤ (((k + 1) : Nat) : Int) ∧ (((k + 1) : Nat) : Int) ≤ 9223372036854775807)] ⟨19, [(Zbo1 N), (1, .one (.str w)), (Zbo0 N), (8, .i (((k + 1) : Nat) : Int))], [(1, .flat (.strs N))]⟩ hT (by kernel_rfl) ⟨(by omega), trivial⟩ ?_
   refine loop_end _ ?_ ⟨(k + 1), ⟨(by omega), (by intro j hj; rcases Nat.lt_succ_iff_lt_or_eq.1 hj with q | q; exact hn j q; subst q; intro q; rw [bytes_beq.2 q.symm] at c4; cases c4), rfl⟩, (by kernel_rfl)⟩
   omega
 ·
  try simp only [bs] at c2
  refine awp_exit ?_
  refine kq [] ⟨19, [(4, .i (-1))], [(1, .flat (.strs N))]⟩ hT (by kernel_rfl) trivial ?_
  refine awp_ret ?_
  refine kRet.ret _ [] [] (.i (-1)) [(1, .flat (.strs N))] (by kernel_rfl) trivial ?_
  exact ⟨(-1 : Int), (by exact .none (fun j hj => hn j (by omega))), (by kernel_rfl), (by kernel_rfl)⟩
end Go.Ab
set_option maxRecDepth 100000
namespace Go.Ab
open Go Go.Proofs
abbrev Zbp0 (a0 : Int) (a1 : Int) (a2 : Int) (a3 : List Arc) (a4 : List Int) (a5 : List Sta) (a6 : List ByteArray) (a7 : List Sta) := ([(1, .box 1 8 [(.i a0), (.i a1), (.i a2), (.ro (.arcs a3)), (.ro (.ints .i64 a4)), (.w 9002 a5.length), (.w 9003 a6.length), (.w 9004 a7.length)]), (9002, .recs (.stas a5)), (9003, .flat (.strs a6)), (9004, .recs (.stas a7))] : List (Nat × Obj))
theorem store_undo (n s t : Int) (es : List Arc) (f : List Int) (O : List Sta) (N : List ByteArray) (V : List Sta) (hO : O.length ≤ 20) : ACall Tryd.prog 18 [.p 1] (Zbp0 n s t es f O N V) (fun ov oh => ∃ (n9 s9 t9 : Int) (es9 : List Arc) (f9 : List Int) (O9 : List Sta) (e9 : Int), (UndoR n s t es f O n9 s9 t9 es9 f9 O9 e9) ∧ ov = .tup [(false, [(.i 0)]), (false, [(.i e9)])] ∧ oh = (Zbp0 n9 s9 t9 es9 f9 O9 N V)) := by
 refine acall_intro hT Tryd.func18 rfl (by kernel_rfl) rfl (by kernel_rfl) ?_
 refine kq [] ⟨39, [(0, .p 1)], (Zbp0 n s t es f O N V)⟩ hT (by kernel_rfl) trivial ?_
 refine awp_seq ?_
 refine kq [(0 < 1)] ⟨39, [(0, .p 1), (9, .one (.bool (decide (((O.length : Nat) : Int) = 0))))], (Zbp0 n s t es f O N V)⟩ hT (by kernel_rfl) ⟨(by decide), trivial⟩ ?_
 refine awp_cond (b := (decide (((O.length : Nat) : Int) = 0))) (by kernel_rfl) (fun c1 => ?_) (fun c1 => ?_)
 ·
  try simp only [bs] at c1
  refine kq [] ⟨39, [(2, .i 0), (3, .i 5)], (Zbp0 n s t es f O N V)⟩ hT (by kernel_rfl) trivial ?_
  refine awp_ret ?_
  refine kRet.ret _ [9002, 9003, 9004] [] (.tup [(false, [(.i 0)]), (false, [(.i 5)])]) (Zbp0 n s t es f O N V) (by kernel_rfl) trivial ?_
  exact ⟨n, s, t, es, f, O, 5, (by exact .inl ⟨by omega, rfl, rfl, rfl, rfl, rfl, rfl, rfl⟩), (by kernel_rfl), (by kernel_rfl)⟩
 ·
  try simp only [bs] at c1
  obtain ⟨O3, hO3⟩ : ∃ x, (List.take (Int.toNat (((O.length : Nat) : Int) - 1)) O) = x := ⟨_, rfl⟩
  have hO3l : (Int.toNat (((O.length : Nat) : Int) - 1)) = O3.length := by rw [← hO3, List.length_take]; omega
  refine awp_skip ?_
  refine awp_seq (awp_tail 15 [0, 22, 24] [9002, 9003, 9004] [(0 < 1), (0 < 1), (-9223372036854775808 ≤ (((O.length : Nat) : Int) - 1) ∧ (((O.length : Nat) : Int) - 1) ≤ 9223372036854775807), ((0 : Int) ≤ (((O.length : Nat) : Int) - 1)), ((((O.length : Nat) : Int) - 1) < ((O.length : Nat) : Int)), ((Int.toNat (((O.length : Nat) : Int) - 1)) < O.length)] ⟨39, [(0, .p 1), (22, .agg [(.i ((List.getD O (Int.toNat (((O.length : Nat) : Int) - 1)) default).n)), (.i ((List.getD O (Int.toNat (((O.length : Nat) : Int) - 1)) default).s)), (.i ((List.getD O (Int.toNat (((O.length : Nat) : Int) - 1)) default).t)), (.ro (.arcs ((List.getD O (Int.toNat (((O.length : Nat) : Int) - 1)) default).es))), (.ro (.ints .i64 ((List.getD O (Int.toNat (((O.length : Nat) : Int) - 1)) default).f)))]), (24, .p 1)], (Zbp0 n s t es f O N V)⟩ (by kernel_rfl) (by kernel_rfl) hT (by kernel_rfl) ⟨(by decide), (by decide), (by omega), (by omega), (by omega), (by omega), trivial⟩ ?_)
  refine ko 1 [(0 < 1)] ⟨39, [(0, .p 1)], [(1, .box 1 8 [(.i ((List.getD O (Int.toNat (((O.length : Nat) : Int) - 1)) default).n)), (.i ((List.getD O (Int.toNat (((O.length : Nat) : Int) - 1)) default).s)), (.i ((List.getD O (Int.toNat (((O.length : Nat) : Int) - 1)) default).t)), (.ro (.arcs ((List.getD O (Int.toNat (((O.length : Nat) : Int) - 1)) default).es))), (.ro (.ints .i64 ((List.getD O (Int.toNat (((O.length : Nat) : Int) - 1)) default).f))), (.w 9002 O.length), (.w 9003 N.length), (.w 9004 V.length)]), (9002, .recs (.stas O)), (9003, .flat (.strs N)), (9004, .recs (.stas V))]⟩ hT (by kernel_rfl) (by kernel_rfl) ⟨(by decide), trivial⟩ ?_
  refine aops_end_seq (by kernel_rfl) ?_
  refine awp_seq (awp_tail 14 [36, 38] [9002, 9003, 9004] [(0 < 1), (0 < 1), (-9223372036854775808 ≤ (((O.length : Nat) : Int) - 1) ∧ (((O.length : Nat) : Int) - 1) ≤ 9223372036854775807), ((0 : Int) ≤ 0), ((0 : Int) ≤ (((O.length : Nat) : Int) - 1)), ((((O.length : Nat) : Int) - 1) ≤ ((O.length : Nat) : Int))] ⟨39, [(36, .w 9002 (Int.toNat (((O.length : Nat) : Int) - 1))), (38, .one (.ptr 1 0 5))], [(1, .box 1 8 [(.i ((List.getD O (Int.toNat (((O.length : Nat) : Int) - 1)) default).n)), (.i ((List.getD O (Int.toNat (((O.length : Nat) : Int) - 1)) default).s)), (.i ((List.getD O (Int.toNat (((O.length : Nat) : Int) - 1)) default).t)), (.ro (.arcs ((List.getD O (Int.toNat (((O.length : Nat) : Int) - 1)) default).es))), (.ro (.ints .i64 ((List.getD O (Int.toNat (((O.length : Nat) : Int) - 1)) default).f))), (.w 9002 O.length), (.w 9003 N.length), (.w 9004 V.length)]), (9002, .recs (.stas O)), (9003, .flat (.strs N)), (9004, .recs (.stas V))]⟩ (by kernel_rfl) (by kernel_rfl) hT (by kernel_rfl) ⟨(by decide), (by decide), (by omega), (by omega), (by omega), (by omega), trivial⟩ ?_)
  refine aops_weak (s' := ⟨39, [(36, .w 9002 (Int.toNat (((O.length : Nat) : Int) - 1))), (38, .one (.ptr 1 0 5))], [(1, .box 1 8 [(.i ((List.getD O (Int.toNat (((O.length : Nat) : Int) - 1)) default).n)), (.i ((List.getD O (Int.toNat (((O.length : Nat) : Int) - 1)) default).s)), (.i ((List.getD O (Int.toNat (((O.length : Nat) : Int) - 1)) default).t)), (.ro (.arcs ((List.getD O (Int.toNat (((O.length : Nat) : Int) - 1)) default).es))), (.ro (.ints .i64 ((List.getD O (Int.toNat (((O.length : Nat) : Int) - 1)) default).f))), .any, (.w 9003 N.length), (.w 9004 V.length)]), (9002, .recs (.stas (List.take (Int.toNat (((O.length : Nat) : Int) - 1)) O))), (9003, .flat (.strs N)), (9004, .recs (.stas V))]⟩) (awk_truncR 9002 36 0 (Int.toNat (((O.length : Nat) : Int) - 1)) (.stas O) (.stas (List.take (Int.toNat (((O.length : Nat) : Int) - 1)) O)) _ (by kernel_rfl) (by kernel_rfl) (by decide) (takeS_ok (by omega)).1.1 (takeS_ok (by omega)).1.2 rfl (takeS_ok (by omega)).2) ?_
  refine ku ⟨39, [(36, .w 9002 (Int.toNat (((O.length : Nat) : Int) - 1))), (38, .one (.ptr 1 0 5))], [(1, .box 1 8 [(.i ((List.getD O (Int.toNat (((O.length : Nat) : Int) - 1)) default).n)), (.i ((List.getD O (Int.toNat (((O.length : Nat) : Int) - 1)) default).s)), (.i ((List.getD O (Int.toNat (((O.length : Nat) : Int) - 1)) default).t)), (.ro (.arcs ((List.getD O (Int.toNat (((O.length : Nat) : Int) - 1)) default).es))), (.ro (.ints .i64 ((List.getD O (Int.toNat (((O.length : Nat) : Int) - 1)) default).f))), .any, (.w 9003 N.length), (.w 9004 V.length)]), (9002, .recs (.stas (List.take (Int.toNat (((O.length : Nat) : Int) - 1)) O))), (9003, .flat (.strs N)), (9004, .recs (.stas V))]⟩ (by kernel_rfl) ?_
  rw [show (List.take (Int.toNat (((O.length : Nat) : Int) - 1)) O) = O3 from hO3]
  rw [show (Int.toNat (((O.length : Nat) : Int) - 1)) = O3.length from hO3l]
  refine ko 1 [(0 < 1)] ⟨39, [], [(1, .box 1 8 [(.i ((List.getD O O3.length default).n)), (.i ((List.getD O O3.length default).s)), (.i ((List.getD O O3.length default).t)), (.ro (.arcs ((List.getD O O3.length default).es))), (.ro (.ints .i64 ((List.getD O O3.length default).f))), (.w 9002 O3.length), (.w 9003 N.length), (.w 9004 V.length)]), (9002, .recs (.stas O3)), (9003, .flat (.strs N)), (9004, .recs (.stas V))]⟩ hT (by kernel_rfl) (by kernel_rfl) ⟨(by decide), trivial⟩ ?_
  refine aops_end_seq (by kernel_rfl) ?_
  refine kq [] ⟨39, [(2, .i 0), (3, .i 0)], [(1, .box 1 8 [(.i ((List.getD O O3.length default).n)), (.i ((List.getD O O3.length default).s)), (.i ((List.getD O O3.length default).t)), (.ro (.arcs ((List.getD O O3.length default).es))), (.ro (.ints .i64 ((List.getD O O3.length default).f))), (.w 9002 O3.length), (.w 9003 N.length), (.w 9004 V.length)]), (9002, .recs (.stas O3)), (9003, .flat (.strs N)), (9004, .recs (.stas V))]⟩ hT (by kernel_rfl) trivial ?_
  refine awp_ret ?_
  refine kRet.ret _ [9002, 9003, 9004] [] (.tup [(false, [(.i 0)]), (false, [(.i 0)])]) [(1, .box 1 8 [(.i ((List.getD O O3.length default).n)), (.i ((List.getD O O3.length default).s)), (.i ((List.getD O O3.length default).t)), (.ro (.arcs ((List.getD O O3.length default).es))), (.ro (.ints .i64 ((List.getD O O3.length default).f))), (.w 9002 O3.length), (.w 9003 N.length), (.w 9004 V.length)]), (9002, .recs (.stas O3)), (9003, .flat (.strs N)), (9004, .recs (.stas V))] (by kernel_rfl) trivial ?_
  exact ⟨((List.getD O O3.length default).n), ((List.getD O O3.length default).s), ((List.getD O O3.length default).t), ((List.getD O O3.length default).es), ((List.getD O O3.length default).f), O3, 0, (by have hq : O.length - 1 = O3.length := (by omega); exact .inr ⟨by omega, by rw [hq], by rw [hq], by rw [hq], by rw [hq], by rw [hq], by rw [← hO3]; congr 1 <;> omega, rfl⟩), (by kernel_rfl), (by kernel_rfl)⟩
end Go.Ab
set_option maxRecDepth 100000
namespace Go.Ab
open Go Go.Proofs
abbrev ZbwG (g : Bool) : Prop := g = true → g = true
abbrev ZbwT (g : Bool) : Prop := g = true → (g = true → g = true)
abbrev Zbw0 (a0 : ByteArray) := ((15, .i (((List.length (bts a0)) : Nat) : Int)) : Nat × AV)
abbrev Zbw1 (a0 : ByteArray) := ((14, .one (.ro (.ints .u8 (bts a0)))) : Nat × AV)
theorem store_name (w : ByteArray) : ACall Tryd.prog 35 [.one (.str w)] [] (fun ov oh => ov = .i (nameErr w) ∧ oh = []) := by
 refine acall_intro hT Tryd.func35 rfl (by kernel_rfl) rfl (by kernel_rfl) ?_
 have hbl := bts_length w
 refine kq [] ⟨27, [(0, .one (.str w))], []⟩ hT (by kernel_rfl) trivial ?_
 refine awp_seq ?_
 refine kq [(ZbwT (!(decide ((((ByteArray.size w) : Nat) : Int) < 1)))), (ZbwT (!(decide ((((ByteArray.size w) : Nat) : Int) < 1)))), (ZbwG (!(decide ((((ByteArray.size w) : Nat) : Int) < 1))))] ⟨27, [(0, .one (.str w)), (12, .one (.bool ((decide ((((ByteArray.size w) : Nat) : Int) < 1)) || (decide ((8 : Int) < (((ByteArray.size w) : Nat) : Int))))))], []⟩ hT (by kernel_rfl) ⟨(fun _ h => h), (fun _ h => h), id, trivial⟩ ?_
 refine awp_cond (b := ((decide ((((ByteArray.size w) : Nat) : Int) < 1)) || (decide ((8 : Int) < (((ByteArray.size w) : Nat) : Int))))) (by kernel_rfl) (fun c1 => ?_) (fun c1 => ?_)
 ·
  try simp only [bs] at c1
  refine kq [] ⟨27, [(2, .i 3)], []⟩ hT (by kernel_rfl) trivial ?_
  refine awp_ret ?_
  refine kRet.ret _ [] [] (.i 3) [] (by kernel_rfl) trivial ?_
  exact ⟨congrArg (fun x1 => (.i x1 : AV)) (show 3 = (nameErr w) from by rw [nameErr, if_pos (by omega)]), rfl⟩
 ·
  try simp only [bs] at c1
  have hn1 : 1 ≤ w.size ∧ w.size ≤ 8 := by omega
  refine awp_skip ?_
  refine awp_seq ?_
  refine awp_seq (awp_region ?_)
  refine ko 1 [] ⟨27, [(13, .one (.str w))], []⟩ hT (by kernel_rfl) (by kernel_rfl) trivial ?_
  refine aops_bytes (d := 14) (w := w) rfl rfl rfl rfl (by kernel_rfl) Tryd.underlying9 Tryd.underlying101 Tryd.underlying5 (by kernel_rfl) (by unfold maxLen; omega) ?_
  refine ku ⟨27, [(13, .one (.str w)), (Zbw1 w)], []⟩ (by kernel_rfl) ?_
  refine ko 2 [] ⟨27, [(Zbw1 w), (Zbw0 w), (16, .i 0)], []⟩ hT (by kernel_rfl) (by kernel_rfl) trivial ?_
  refine aops_end_seq (by kernel_rfl) ?_
  refine awp_block ?_
  refine awp_loop (I := fun κ σ => ∃ (k : Nat), ((k ≤ w.size) ∧ (∀ j, j < k → 97 ≤ (bts w).getD j 0 ∧ (bts w).getD j 0 ≤ 122) ∧ w.size - k = κ) ∧ σ = ⟨27, [(Zbw1 w), (Zbw0 w), (16, .i (k : Int))], []⟩) _ ⟨0, ⟨(by omega), (by intro j hj; omega), rfl⟩, (by kernel_rfl)⟩ ?_
  rintro κ _ ⟨k, ⟨hk, hl, rfl⟩, rfl⟩
  refine kq [] ⟨27, [(Zbw1 w), (Zbw0 w), (16, .i (k : Int)), (17, .one (.bool (decide ((k : Int) < (((List.length (bts w)) : Nat) : Int)))))], []⟩ hT (by kernel_rfl) trivial ?_
  refine awp_seq ?_
  refine awp_cond (b := (decide ((k : Int) < (((List.length (bts w)) : Nat) : Int)))) (by kernel_rfl) (fun c4 => ?_) (fun c4 => ?_)
  ·
   try simp only [bs] at c4
   refine awp_skip ?_
   refine awp_seq ?_
   refine awp_block ?_
   refine kq [((0 : Int) ≤ (k : Int)), ((k : Int) < (((List.length (bts w)) : Nat) : Int))] ⟨27, [(4, .one (.int .u8 (List.getD (bts w) k 0))), (Zbw1 w), (Zbw0 w), (16, .i (k : Int))], []⟩ hT (by kernel_rfl) ⟨(by omega), (by omega), trivial⟩ ?_
   refine kq [(ZbwT (!(decide ((List.getD (bts w) k 0) < 97)))), (ZbwG (!(decide ((List.getD (bts w) k 0) < 97))))] ⟨27, [(Zbw1 w), (Zbw0 w), (16, .i (k : Int)), (25, .one (.bool ((decide ((List.getD (bts w) k 0) < 97)) || (decide ((122 : Int) < (List.getD (bts w) k 0))))))], []⟩ hT (by kernel_rfl) ⟨(fun _ h => h), id, trivial⟩ ?_
   refine awp_cond (b := ((decide ((List.getD (bts w) k 0) < 97)) || (decide ((122 : Int) < (List.getD (bts w) k 0))))) (by kernel_rfl) (fun c6 => ?_) (fun c6 => ?_)
   ·
    try simp only [bs] at c6
    refine kq [] ⟨27, [(2, .i 3)], []⟩ hT (by kernel_rfl) trivial ?_
    refine awp_ret ?_
    refine kRet.ret _ [] [] (.i 3) [] (by kernel_rfl) trivial ?_
    exact ⟨congrArg (fun x1 => (.i x1 : AV)) (show 3 = (nameErr w) from by exact (nameErr_bad hn1.1 hn1.2 (by omega) c6).symm), rfl⟩
   ·
    try simp only [bs] at c6
    refine awp_skip ?_
    refine kr [(-9223372036854775808 ≤ (((k + 1) : Nat) : Int) ∧ (((k + 1) : Nat) : Int) ≤ 9223372036854775807)] ⟨27, [(Zbw1 w), (Zbw0 w), (16, .i (((k + 1) : Nat) : Int))], []⟩ hT (by kernel_rfl) ⟨(by omega), trivial⟩ ?_
    refine loop_end _ ?_ ⟨(k + 1), ⟨(by omega), (by intro j hj; rcases Nat.lt_succ_iff_lt_or_eq.1 hj with q | q; exact hl j q; subst q; omega), rfl⟩, (by kernel_rfl)⟩
    omega
  ·
   try simp only [bs] at c4
   refine awp_exit ?_
   refine kq [] ⟨27, [(2, .i 0)], []⟩ hT (by kernel_rfl) trivial ?_
   refine awp_ret ?_
   refine kRet.ret _ [] [] (.i 0) [] (by kernel_rfl) trivial ?_
   exact ⟨congrArg (fun x1 => (.i x1 : AV)) (show 0 = (nameErr w) from by exact (nameErr_good hn1.1 hn1.2 (fun j hj => hl j (by omega))).symm), rfl⟩
end Go.Ab
set_option maxRecDepth 100000
namespace Go.Ab
open Go Go.Proofs
abbrev Zbq2 (a0 : Int) (a1 : Int) (a2 : Int) (a3 : List Arc) (a4 : List Int) (a5 : List Sta) (a6 : List ByteArray) (a7 : List Sta) := ((1, .box 1 8 [(.i a0), (.i a1), (.i a2), (.ro (.arcs a3)), (.ro (.ints .i64 a4)), (.w 9002 a5.length), (.w 9003 a6.length), (.w 9004 a7.length)]) : Nat × Obj)
abbrev Zbq0 (a0 : Int) (a1 : Int) (a2 : Int) (a3 : List Arc) (a4 : List Int) (a5 : List Sta) (a6 : List ByteArray) (a7 : List Sta) := ([(Zbq2 a0 a1 a2 a3 a4 a5 a6 a7), (9002, .recs (.stas a5)), (9003, .flat (.strs a6)), (9004, .recs (.stas a7))] : List (Nat × Obj))
abbrev Zbq1 (a0 : Int) (a1 : Int) (a2 : Int) (a3 : List Arc) (a4 : List Int) (a5 : List Sta) (a6 : List ByteArray) (a7 : List Sta) (a8 : ByteArray) := ([(1, .box 1 8 [(.i a0), (.i a1), (.i a2), (.ro (.arcs a3)), (.ro (.ints .i64 a4)), (.w 9002 a5.length), (.w 9003 (a6.length + 1)), (.w 9004 (a7.length + 1))]), (9002, .recs (.stas a5)), (9003, .flat (.strs (a6 ++ [a8]))), (9004, .recs (.stas (a7 ++ [⟨a0, a1, a2, a3, a4⟩])))] : List (Nat × Obj))
theorem store_save (n s t : Int) (es : List Arc) (f : List Int) (O : List Sta) (N : List ByteArray) (V : List Sta) (w : ByteArray) (hN : N.length ≤ 4) (hV : V.length = N.length) : ACall Tryd.prog 19 [.p 1, .one (.str w)] (Zbq0 n s t es f O N V) (fun ov oh => ∃ (N9 : List ByteArray) (V9 : List Sta) (e9 : Int), (SaveR n s t es f w N V N9 V9 e9) ∧ ov = .tup [(false, [(.i 0)]), (false, [(.i e9)])] ∧ oh = (Zbq0 n s t es f O N9 V9)) := by
 refine acall_intro hT Tryd.func19 rfl (by kernel_rfl) rfl (by kernel_rfl) ?_
 refine kq [] ⟨60, [(0, .p 1), (1, .one (.str w))], (Zbq0 n s t es f O N V)⟩ hT (by kernel_rfl) trivial ?_
 refine awp_seq ?_
 refine awp_seq (awp_region ?_)
 refine ko 1 [] ⟨60, [(0, .p 1), (1, .one (.str w)), (8, .one (.str w))], (Zbq0 n s t es f O N V)⟩ hT (by kernel_rfl) (by kernel_rfl) trivial ?_
 refine aops_pure false ⟨true, [], 35, [.one (.str w)], []⟩ [.one (.str w)] (.i (nameErr w)) ⟨60, [(0, .p 1), (1, .one (.str w)), (8, .one (.str w)), (9, .i (nameErr w))], (Zbq0 n s t es f O N V)⟩ (by kernel_rfl) (by kernel_rfl) (fun _ => trivial) rfl (fun _ => store_name w) ?_
 refine ko 1 [] ⟨60, [(0, .p 1), (1, .one (.str w)), (6, .i (nameErr w))], (Zbq0 n s t es f O N V)⟩ hT (by kernel_rfl) (by kernel_rfl) trivial ?_
 refine aops_end_seq (by kernel_rfl) ?_
 refine kq [] ⟨60, [(0, .p 1), (1, .one (.str w)), (6, .i (nameErr w)), (11, .one (.bool (decide ((nameErr w) ≠ 0))))], (Zbq0 n s t es f O N V)⟩ hT (by kernel_rfl) trivial ?_
 refine awp_cond (b := (decide ((nameErr w) ≠ 0))) (by kernel_rfl) (fun c2 => ?_) (fun c2 => ?_)
 ·
  try simp only [bs] at c2
  refine kq [] ⟨60, [(4, .i 0), (5, .i (nameErr w))], (Zbq0 n s t es f O N V)⟩ hT (by kernel_rfl) trivial ?_
  refine awp_ret ?_
  refine kRet.ret _ [9002, 9003, 9004] [] (.tup [(false, [(.i 0)]), (false, [(.i (nameErr w))])]) (Zbq0 n s t es f O N V) (by kernel_rfl) trivial ?_
  exact ⟨N, V, (nameErr w), (by exact .bad (by omega)), (by kernel_rfl), (by kernel_rfl)⟩
 ·
  try simp only [bs] at c2
  refine awp_skip ?_
  refine awp_seq ?_
  refine awp_seq (awp_region ?_)
  refine ko 5 [(0 < 1)] ⟨60, [(0, .p 1), (1, .one (.str w)), (16, .w 9003 N.length), (17, .one (.str w))], (Zbq0 n s t es f O N V)⟩ hT (by kernel_rfl) (by kernel_rfl) ⟨(by decide), trivial⟩ ?_
  refine aops_call [(1, 9003)] [] false ⟨true, [], 36, [.w 1 N.length, .one (.str w)], [(1, .flat (.strs N))]⟩ [.w 1 N.length, .one (.str w)] (sm := ⟨60, [(0, .p 1), (1, .one (.str w)), (16, .w 9003 N.length), (17, .one (.str w)), (18, .whn false (.one .any))], (Zbq0 n s t es f O N V)⟩) (by kernel_rfl) (by kernel_rfl) (by decide) (fun _ => trivial) rfl (fun _ => index_str N w (by omega)) (fun _ v Hr hv => ?_) (fun h => by cases h)
  obtain ⟨r4, hr4, rfl, rfl⟩ := hv
  refine ⟨⟨60, [(0, .p 1), (1, .one (.str w)), (16, .w 9003 N.length), (17, .one (.str w)), (18, .i r4)], (Zbq0 n s t es f O N V)⟩, by kernel_rfl, ?_⟩
  refine ko 1 [] ⟨60, [(0, .p 1), (1, .one (.str w)), (7, .i r4)], (Zbq0 n s t es f O N V)⟩ hT (by kernel_rfl) (by kernel_rfl) trivial ?_
  refine aops_end_seq (by kernel_rfl) ?_
  refine kq [] ⟨60, [(0, .p 1), (1, .one (.str w)), (7, .i r4), (20, .one (.bool (decide ((0 : Int) ≤ r4))))], (Zbq0 n s t es f O N V)⟩ hT (by kernel_rfl) trivial ?_
  refine awp_cond (b := (decide ((0 : Int) ≤ r4))) (by kernel_rfl) (fun c5 => ?_) (fun c5 => ?_)
  ·
   try simp only [bs] at c5
   have hr4l : r4.toNat < N.length := by rcases hr4 with ⟨q, _⟩ | ⟨_, q, _⟩; omega; exact q
   refine awp_seq (awp_tail 10 [29, 30] [9002, 9003, 9004] [(0 < 1), (0 < 1), ((0 : Int) ≤ r4), (r4 < ((V.length : Nat) : Int))] ⟨60, [(29, .agg [(.i n), (.i s), (.i t), (.ro (.arcs es)), (.ro (.ints .i64 f))]), (30, .one (.ptr 9004 (Int.toNat r4) 0))], (Zbq0 n s t es f O N V)⟩ (by kernel_rfl) (by kernel_rfl) hT (by kernel_rfl) ⟨(by decide), (by decide), (by omega), (by omega), trivial⟩ ?_)
   refine ko 1 [((Int.toNat r4) < V.length)] ⟨60, [], [(Zbq2 n s t es f O N V), (9002, .recs (.stas O)), (9003, .flat (.strs N)), (9004, .recs (.stas (List.set V (Int.toNat r4) (⟨n, s, t, es, f⟩))))]⟩ hT (by kernel_rfl) (by kernel_rfl) ⟨(by omega), trivial⟩ ?_
   refine aops_end_seq (by kernel_rfl) ?_
   refine kq [] ⟨60, [(4, .i 0), (5, .i 0)], [(Zbq2 n s t es f O N V), (9002, .recs (.stas O)), (9003, .flat (.strs N)), (9004, .recs (.stas (List.set V (Int.toNat r4) (⟨n, s, t, es, f⟩))))]⟩ hT (by kernel_rfl) trivial ?_
   refine awp_ret ?_
   refine kRet.ret _ [9002, 9003, 9004] [] (.tup [(false, [(.i 0)]), (false, [(.i 0)])]) [(Zbq2 n s t es f O N V), (9002, .recs (.stas O)), (9003, .flat (.strs N)), (9004, .recs (.stas (List.set V (Int.toNat r4) (⟨n, s, t, es, f⟩))))] (by kernel_rfl) trivial ?_
   exact ⟨N, (List.set V (Int.toNat r4) (⟨n, s, t, es, f⟩)), 0, (by exact .put (by omega) hr4 (by omega)), (by kernel_rfl), (by (simp; done))⟩
  ·
   try simp only [bs] at c5
   refine awp_skip ?_
   refine awp_seq ?_
   refine kq [(0 < 1)] ⟨60, [(0, .p 1), (1, .one (.str w)), (36, .one (.bool (decide (((N.length : Nat) : Int) = 4))))], (Zbq0 n s t es f O N V)⟩ hT (by kernel_rfl) ⟨(by decide), trivial⟩ ?_
   refine awp_cond (b := (decide (((N.length : Nat) : Int) = 4))) (by kernel_rfl) (fun c8 => ?_) (fun c8 => ?_)
   ·
    try simp only [bs] at c8
    refine kq [] ⟨60, [(4, .i 0), (5, .i 11)], (Zbq0 n s t es f O N V)⟩ hT (by kernel_rfl) trivial ?_
    refine awp_ret ?_
    refine kRet.ret _ [9002, 9003, 9004] [] (.tup [(false, [(.i 0)]), (false, [(.i 11)])]) (Zbq0 n s t es f O N V) (by kernel_rfl) trivial ?_
    exact ⟨N, V, 11, (by exact .full (by omega) hr4 (by omega) (by omega)), (by kernel_rfl), (by kernel_rfl)⟩
   ·
    try simp only [bs] at c8
    refine awp_skip ?_
    refine awp_seq (awp_calm3 [] false [[], [], [], [2], [2, 3], [2, 3, 4], [], [6], [2, 3, 4, 5, 6, 7], [], [9], [9, 10], [9, 10, 11], [], [13], [13, 14], [13, 14, 15], [13, 14, 15, 16], [2, 3, 4, 5, 6, 7, 8, 9, 10, 11, 12, 13, 14, 15, 16, 17], [0, 2, 3, 4, 5, 6, 7, 8, 9, 10, 11, 12, 13, 14, 15, 16, 17, 18], [0, 2, 3, 4, 5, 6, 7, 8, 9, 10, 11, 12, 13, 14, 15, 16, 17, 18, 19], [0, 2, 3, 4, 5, 6, 7, 8, 9, 10, 11, 12, 13, 14, 15, 16, 17, 18, 19, 20], [0, 1, 2, 3, 4, 5, 6, 7, 8, 9, 10, 11, 12, 13, 14, 15, 16, 17, 18, 19, 20, 21], [0, 1, 2, 3, 4, 5, 6, 7, 8, 9, 10, 11, 12, 13, 14, 15, 16, 17, 18, 19, 20, 21, 22], [0, 1, 2, 3, 4, 5, 6, 7, 8, 9, 10, 11, 12, 13, 14, 15, 16, 17, 18, 19, 20, 21, 22, 23]] 0 25 #[false, false, false, false, false, false, false, false, false, false, false, false, false, false, false, false, false, false, false, false, false, false, false, false, false] [0, 1] [9002, 9003, 9004] [] ⟨60, [(0, .p 1), (1, .one (.str w))], (Zbq0 n s t es f O N V)⟩ (by kernel_rfl) hT (by kernel_rfl) (by kernel_rfl) (by kernel_rfl) (by kernel_rfl) trivial ?_)
    refine aany_dag2 (n := 0) (L := #[true, true, true, true, true, true, true, true, true, true, true, true, true, true, true, true, true, true, true, true, true, true, true, true, true]) (s' := ⟨60, [], (Zbq1 n s t es f O N V w)⟩) [] false 25 [] [9002, 9003, 9004] [(0, []), (1, []), (2, []), (3, []), (4, []), (5, [(0 < 1)]), (6, []), (7, []), (8, [(N.length = N.length), ((N.length + 1) * 16 ≤ 140737488355328), ((N.length + 1) ≤ 9223372036854775807)]), (9, []), (10, []), (11, []), (12, [(0 < 1)]), (13, []), (14, []), (15, []), (16, [(0 < 1)]), (17, []), (18, [(V.length = V.length), ((V.length + 1) * 72 ≤ 140737488355328), ((V.length + 1) ≤ 9223372036854775807)]), (19, []), (20, []), (21, [(0 < 1)]), (22, []), (23, []), (24, [(0 < 1)])] hT (by kernel_rfl) (by kernel_rfl) (by kernel_rfl) (by kernel_rfl) ⟨trivial, trivial, trivial, trivial, trivial, ⟨(by decide), trivial⟩, trivial, trivial, ⟨(by omega), (by omega), (by omega), trivial⟩, trivial, trivial, trivial, ⟨(by decide), trivial⟩, trivial, trivial, trivial, ⟨(by decide), trivial⟩, trivial, ⟨(by omega), (by omega), (by omega), trivial⟩, trivial, trivial, ⟨(by decide), trivial⟩, trivial, trivial, ⟨(by decide), trivial⟩, trivial⟩ ?_
    refine aany_end [] false [] [9002, 9003, 9004] 1 [] ⟨60, [], (Zbq1 n s t es f O N V w)⟩ (by kernel_rfl) hT (by kernel_rfl) trivial ?_
    refine kq [] ⟨60, [(4, .i 0), (5, .i 0)], (Zbq1 n s t es f O N V w)⟩ hT (by kernel_rfl) trivial ?_
    refine awp_ret ?_
    refine kRet.ret _ [9002, 9003, 9004] [] (.tup [(false, [(.i 0)]), (false, [(.i 0)])]) (Zbq1 n s t es f O N V w) (by kernel_rfl) trivial ?_
    exact ⟨(N ++ [w]), (V ++ [⟨n, s, t, es, f⟩]), 0, (by exact .new (by omega) hr4 (by omega) (by omega)), (by kernel_rfl), (by (simp; done))⟩
end Go.Ab
set_option maxRecDepth 100000
namespace Go.Ab
open Go Go.Proofs
abbrev Zbr0 (a0 : Int) (a1 : Int) (a2 : Int) (a3 : List Arc) (a4 : List Int) (a5 : List Sta) (a6 : List ByteArray) (a7 : List Sta) := ([(1, .box 1 8 [(.i a0), (.i a1), (.i a2), (.ro (.arcs a3)), (.ro (.ints .i64 a4)), (.w 9002 a5.length), (.w 9003 a6.length), (.w 9004 a7.length)]), (9002, .recs (.stas a5)), (9003, .flat (.strs a6)), (9004, .recs (.stas a7))] : List (Nat × Obj))
theorem store_load (n s t : Int) (es : List Arc) (f : List Int) (O : List Sta) (N : List ByteArray) (V : List Sta) (w : ByteArray) (hO : O.length ≤ 20) (hN : N.length ≤ 4) (hV : V.length = N.length) : ACall Tryd.prog 20 [.p 1, .one (.str w)] (Zbr0 n s t es f O N V) (fun ov oh => ∃ (n9 s9 t9 : Int) (es9 : List Arc) (f9 : List Int) (O9 : List Sta) (e9 : Int), (LoadR n s t es f O w N V n9 s9 t9 es9 f9 O9 e9) ∧ ov = .tup [(false, [(.i 0)]), (false, [(.i e9)])] ∧ oh = (Zbr0 n9 s9 t9 es9 f9 O9 N V)) := by
 refine acall_intro hT Tryd.func20 rfl (by kernel_rfl) rfl (by kernel_rfl) ?_
 refine kq [] ⟨41, [(0, .p 1), (1, .one (.str w))], (Zbr0 n s t es f O N V)⟩ hT (by kernel_rfl) trivial ?_
 refine awp_seq ?_
 refine awp_seq (awp_region ?_)
 refine ko 1 [] ⟨41, [(0, .p 1), (1, .one (.str w)), (8, .one (.str w))], (Zbr0 n s t es f O N V)⟩ hT (by kernel_rfl) (by kernel_rfl) trivial ?_
 refine aops_pure false ⟨true, [], 35, [.one (.str w)], []⟩ [.one (.str w)] (.i (nameErr w)) ⟨41, [(0, .p 1), (1, .one (.str w)), (8, .one (.str w)), (9, .i (nameErr w))], (Zbr0 n s t es f O N V)⟩ (by kernel_rfl) (by kernel_rfl) (fun _ => trivial) rfl (fun _ => store_name w) ?_
 refine ko 1 [] ⟨41, [(0, .p 1), (1, .one (.str w)), (6, .i (nameErr w))], (Zbr0 n s t es f O N V)⟩ hT (by kernel_rfl) (by kernel_rfl) trivial ?_
 refine aops_end_seq (by kernel_rfl) ?_
 refine kq [] ⟨41, [(0, .p 1), (1, .one (.str w)), (6, .i (nameErr w)), (11, .one (.bool (decide ((nameErr w) ≠ 0))))], (Zbr0 n s t es f O N V)⟩ hT (by kernel_rfl) trivial ?_
 refine awp_cond (b := (decide ((nameErr w) ≠ 0))) (by kernel_rfl) (fun c2 => ?_) (fun c2 => ?_)
 ·
  try simp only [bs] at c2
  refine kq [] ⟨41, [(4, .i 0), (5, .i (nameErr w))], (Zbr0 n s t es f O N V)⟩ hT (by kernel_rfl) trivial ?_
  refine awp_ret ?_
  refine kRet.ret _ [9002, 9003, 9004] [] (.tup [(false, [(.i 0)]), (false, [(.i (nameErr w))])]) (Zbr0 n s t es f O N V) (by kernel_rfl) trivial ?_
  exact ⟨n, s, t, es, f, O, (nameErr w), (by exact .bad (by omega)), (by kernel_rfl), (by kernel_rfl)⟩
 ·
  try simp only [bs] at c2
  refine awp_skip ?_
  refine awp_seq (awp_region ?_)
  refine ko 5 [(0 < 1)] ⟨41, [(0, .p 1), (16, .w 9003 N.length), (17, .one (.str w))], (Zbr0 n s t es f O N V)⟩ hT (by kernel_rfl) (by kernel_rfl) ⟨(by decide), trivial⟩ ?_
  refine aops_call [(1, 9003)] [] false ⟨true, [], 36, [.w 1 N.length, .one (.str w)], [(1, .flat (.strs N))]⟩ [.w 1 N.length, .one (.str w)] (sm := ⟨41, [(0, .p 1), (16, .w 9003 N.length), (17, .one (.str w)), (18, .whn false (.one .any))], (Zbr0 n s t es f O N V)⟩) (by kernel_rfl) (by kernel_rfl) (by decide) (fun _ => trivial) rfl (fun _ => index_str N w (by omega)) (fun _ v Hr hv => ?_) (fun h => by cases h)
  obtain ⟨r4, hr4, rfl, rfl⟩ := hv
  refine ⟨⟨41, [(0, .p 1), (16, .w 9003 N.length), (17, .one (.str w)), (18, .i r4)], (Zbr0 n s t es f O N V)⟩, by kernel_rfl, ?_⟩
  refine ko 1 [] ⟨41, [(0, .p 1), (7, .i r4)], (Zbr0 n s t es f O N V)⟩ hT (by kernel_rfl) (by kernel_rfl) trivial ?_
  refine aops_end_seq (by kernel_rfl) ?_
  refine awp_seq ?_
  refine kq [] ⟨41, [(0, .p 1), (7, .i r4), (20, .one (.bool (decide (r4 < 0))))], (Zbr0 n s t es f O N V)⟩ hT (by kernel_rfl) trivial ?_
  refine awp_cond (b := (decide (r4 < 0))) (by kernel_rfl) (fun c5 => ?_) (fun c5 => ?_)
  ·
   try simp only [bs] at c5
   refine kq [] ⟨41, [(4, .i 0), (5, .i 5)], (Zbr0 n s t es f O N V)⟩ hT (by kernel_rfl) trivial ?_
   refine awp_ret ?_
   refine kRet.ret _ [9002, 9003, 9004] [] (.tup [(false, [(.i 0)]), (false, [(.i 5)])]) (Zbr0 n s t es f O N V) (by kernel_rfl) trivial ?_
   exact ⟨n, s, t, es, f, O, 5, (by exact .none_ (by omega) hr4 (by omega)), (by kernel_rfl), (by kernel_rfl)⟩
  ·
   try simp only [bs] at c5
   have hr4l : r4.toNat < N.length := by rcases hr4 with ⟨q, _⟩ | ⟨_, q, _⟩; omega; exact q
   refine awp_skip ?_
   refine awp_seq (awp_calm3 [] false [[], [], [1], [1, 2], [1, 2, 3], [], [1, 2, 3, 4, 5], [1, 2, 3, 4, 5, 6], [1, 2, 3, 4, 5, 6, 7], [], [9], [9, 10], [9, 10, 11], [], [9, 10, 11, 12, 13], [9, 10, 11, 12, 13, 14], [9, 10, 11, 12, 13, 14, 15], [0, 1, 2, 3, 4, 5, 6, 7, 8, 9, 10, 11, 12, 13, 14, 15, 16], [0, 1, 2, 3, 4, 5, 6, 7, 8, 9, 10, 11, 12, 13, 14, 15, 16, 17], [0, 1, 2, 3, 4, 5, 6, 7, 8, 9, 10, 11, 12, 13, 14, 15, 16, 17], [0, 1, 2, 3, 4, 5, 6, 7, 8, 9, 10, 11, 12, 13, 14, 15, 16, 17, 18, 19], [0, 1, 2, 3, 4, 5, 6, 7, 8, 9, 10, 11, 12, 13, 14, 15, 16, 17, 18, 19, 20]] 17 5 #[true, true, true, true, true, true, true, true, true, true, true, true, true, true, true, true, true, false, false, false, false, false] [21, 29, 37] [9002, 9003, 9004] [(0, []), (1, []), (2, []), (3, []), (4, [(0 < 1)]), (5, []), (6, [((0 : Int) ≤ r4), (r4 < ((V.length : Nat) : Int))]), (7, []), (8, [((Int.toNat r4) < V.length)]), (9, []), (10, []), (11, []), (12, [(0 < 1)]), (13, []), (14, [((0 : Int) ≤ r4), (r4 < ((V.length : Nat) : Int))]), (15, []), (16, [((Int.toNat r4) < V.length)])] ⟨41, [(21, .p 1), (29, .agg [(.i ((List.getD V (Int.toNat r4) default).n)), (.i ((List.getD V (Int.toNat r4) default).s)), (.i ((List.getD V (Int.toNat r4) default).t)), (.ro (.arcs ((List.getD V (Int.toNat r4) default).es)))]), (37, .one (.ro (.ints .i64 ((List.getD V (Int.toNat r4) default).f))))], (Zbr0 n s t es f O N V)⟩ (by kernel_rfl) hT (by kernel_rfl) (by kernel_rfl) (by kernel_rfl) (by kernel_rfl) ⟨trivial, trivial, trivial, trivial, ⟨(by decide), trivial⟩, trivial, ⟨(by omega), (by omega), trivial⟩, trivial, ⟨(by omega), trivial⟩, trivial, trivial, trivial, ⟨(by decide), trivial⟩, trivial, ⟨(by omega), (by omega), trivial⟩, trivial, ⟨(by omega), trivial⟩, trivial⟩ ?_)
   refine aany_call (n := 4) (k := 17) (L := #[true, true, true, true, true, true, true, true, true, true, true, true, true, true, true, true, true, true, false, false, false, false]) [(1, 1), (9002, 9002), (9003, 9003), (9004, 9004)] [(9002, 9002), (9003, 9003), (9004, 9004)] false ⟨true, [], 12, [.p 1, .agg [(.i ((List.getD V (Int.toNat r4) default).n)), (.i ((List.getD V (Int.toNat r4) default).s)), (.i ((List.getD V (Int.toNat r4) default).t)), (.ro (.arcs ((List.getD V (Int.toNat r4) default).es)))], .one (.ro (.ints .i64 ((List.getD V (Int.toNat r4) default).f))), .i 0], (Zbr0 n s t es f O N V)⟩ [.p 1, .agg [(.i ((List.getD V (Int.toNat r4) default).n)), (.i ((List.getD V (Int.toNat r4) default).s)), (.i ((List.getD V (Int.toNat r4) default).t)), (.ro (.arcs ((List.getD V (Int.toNat r4) default).es)))], .one (.ro (.ints .i64 ((List.getD V (Int.toNat r4) default).f))), .i 0] (sm := ⟨41, [(21, .p 1), (29, .agg [(.i ((List.getD V (Int.toNat r4) default).n)), (.i ((List.getD V (Int.toNat r4) default).s)), (.i ((List.getD V (Int.toNat r4) default).t)), (.ro (.arcs ((List.getD V (Int.toNat r4) default).es)))]), (37, .one (.ro (.ints .i64 ((List.getD V (Int.toNat r4) default).f)))), (38, .whn false (.one .any))], (Zbr0 n s t es f O N V)⟩) (by kernel_rfl) (by kernel_rfl) (by kernel_rfl) (by kernel_rfl) (by decide) (fun _ => trivial) rfl (fun _ => store_set n s t es f O N V ((List.getD V (Int.toNat r4) default).n) ((List.getD V (Int.toNat r4) default).s) ((List.getD V (Int.toNat r4) default).t) ((List.getD V (Int.toNat r4) default).es) ((List.getD V (Int.toNat r4) default).f) (0) (by omega)) (fun _ v Hr hv => ?_) (fun h => by cases h)
   obtain ⟨n7, s7, t7, es7, f7, O7, ho7, rfl, rfl⟩ := hv
   refine ⟨⟨41, [(21, .p 1), (29, .agg [(.i ((List.getD V (Int.toNat r4) default).n)), (.i ((List.getD V (Int.toNat r4) default).s)), (.i ((List.getD V (Int.toNat r4) default).t)), (.ro (.arcs ((List.getD V (Int.toNat r4) default).es)))]), (37, .one (.ro (.ints .i64 ((List.getD V (Int.toNat r4) default).f)))), (38, .tup [(false, [(.i 0)]), (false, [(.i 0)])])], (Zbr0 n7 s7 t7 es7 f7 O7 N V)⟩, by kernel_rfl, ?_⟩
   refine aany_weak (awk_cut [38] [9002, 9003, 9004] _) ?_
   refine aany_end [] false [4, 5] [9002, 9003, 9004] 1 [(18, []), (19, []), (20, []), (21, [])] ⟨41, [(4, .i 0), (5, .i 0)], (Zbr0 n7 s7 t7 es7 f7 O7 N V)⟩ (by kernel_rfl) hT (by kernel_rfl) ⟨trivial, trivial, trivial, trivial, trivial⟩ ?_
   refine awp_ret ?_
   refine kRet.ret _ [9002, 9003, 9004] [] (.tup [(false, [(.i 0)]), (false, [(.i 0)])]) (Zbr0 n7 s7 t7 es7 f7 O7 N V) (by kernel_rfl) trivial ?_
   exact ⟨n7, s7, t7, es7, f7, O7, 0, (by exact .load (by omega) hr4 (by omega) ho7), (by kernel_rfl), (by kernel_rfl)⟩
end Go.Ab
set_option maxRecDepth 100000
namespace Go.Ab
open Go Go.Proofs
abbrev Zbs0 := ([(9001, .box 1 8 [(.i 2), (.i 0), (.i 1), (.ro (.arcs [])), (.ro (.ints .i64 [])), (.w 9002 0), (.w 9003 0), (.w 9004 0)]), (9002, .recs (.stas [])), (9003, .flat (.strs [])), (9004, .recs (.stas []))] : List (Nat × Obj))
theorem store_new  : ACall Tryd.prog 4 [] [] (fun ov oh => ov = .p 9001 ∧ oh = Zbs0) := by
 refine acall_intro hT Tryd.func4 rfl (by kernel_rfl) rfl (by kernel_rfl) ?_
 refine kq [] ⟨5, [], []⟩ hT (by kernel_rfl) trivial ?_
 refine kq [] ⟨5, [(0, .p 104)], [(104, .box 1 8 [(.i 2), (.i 0), (.i 1), .nils, .nils, .nils, .nils, .nils])]⟩ hT (by kernel_rfl) trivial ?_
 refine awp_weak (awk_boxcell 104 3 1 8 [(.i 2), (.i 0), (.i 1), .nils, .nils, .nils, .nils, .nils] (.nils) ((.ro (.arcs []))) _ (by kernel_rfl) rfl (wkv_nil0 rfl)) ?_
 refine awp_weak (awk_boxcell 104 4 1 8 [(.i 2), (.i 0), (.i 1), (.ro (.arcs [])), .nils, .nils, .nils, .nils] (.nils) ((.ro (.ints .i64 []))) _ (by kernel_rfl) rfl (wkv_nil0 rfl)) ?_
 refine awp_weak (awk_empty 5902 (.recs (.stas [])) rfl (by decide) _) ?_
 refine awp_weak (awk_boxcell 104 5 1 8 [(.i 2), (.i 0), (.i 1), (.ro (.arcs [])), (.ro (.ints .i64 [])), .nils, .nils, .nils] .nils (.w 5902 0) _ (by kernel_rfl) rfl (wkv_nils (o := .recs (.stas [])) (by kernel_rfl))) ?_
 refine awp_weak (awk_empty 5903 (.flat (.strs [])) rfl (by decide) _) ?_
 refine awp_weak (awk_boxcell 104 6 1 8 [(.i 2), (.i 0), (.i 1), (.ro (.arcs [])), (.ro (.ints .i64 [])), (.w 5902 0), .nils, .nils] .nils (.w 5903 0) _ (by kernel_rfl) rfl (wkv_nils (o := .flat (.strs [])) (by kernel_rfl))) ?_
 refine awp_weak (awk_empty 5904 (.recs (.stas [])) rfl (by decide) _) ?_
 refine awp_weak (awk_boxcell 104 7 1 8 [(.i 2), (.i 0), (.i 1), (.ro (.arcs [])), (.ro (.ints .i64 [])), (.w 5902 0), (.w 5903 0), .nils] .nils (.w 5904 0) _ (by kernel_rfl) rfl (wkv_nils (o := .recs (.stas [])) (by kernel_rfl))) ?_
 refine awp_weak (awk_ren 104 9001 (s' := ⟨5, [(0, .p 9001)], [(5902, .recs (.stas [])), (5903, .flat (.strs [])), (5904, .recs (.stas [])), (9001, .box 1 8 [(.i 2), (.i 0), (.i 1), (.ro (.arcs [])), (.ro (.ints .i64 [])), (.w 5902 0), (.w 5903 0), (.w 5904 0)])]⟩) (by kernel_rfl)) ?_
 refine awp_weak (awk_ren 5902 9002 (s' := ⟨5, [(0, .p 9001)], [(5903, .flat (.strs [])), (5904, .recs (.stas [])), (9001, .box 1 8 [(.i 2), (.i 0), (.i 1), (.ro (.arcs [])), (.ro (.ints .i64 [])), (.w 9002 0), (.w 5903 0), (.w 5904 0)]), (9002, .recs (.stas []))]⟩) (by kernel_rfl)) ?_
 refine awp_weak (awk_ren 5903 9003 (s' := ⟨5, [(0, .p 9001)], [(5904, .recs (.stas [])), (9001, .box 1 8 [(.i 2), (.i 0), (.i 1), (.ro (.arcs [])), (.ro (.ints .i64 [])), (.w 9002 0), (.w 9003 0), (.w 5904 0)]), (9002, .recs (.stas [])), (9003, .flat (.strs []))]⟩) (by kernel_rfl)) ?_
 refine awp_weak (awk_ren 5904 9004 (s' := ⟨5, [(0, .p 9001)], Zbs0⟩) (by kernel_rfl)) ?_
 refine awp_ret ?_
 refine kRet.ret _ [9001, 9002, 9003, 9004] [] (.p 9001) Zbs0 (by kernel_rfl) trivial ?_
 exact ⟨(by kernel_rfl), (by kernel_rfl)⟩
end Go.Ab
