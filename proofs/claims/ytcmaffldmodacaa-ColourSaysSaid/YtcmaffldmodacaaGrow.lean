/- The abstract machine: rows of a table grow, number by number. -/
import Derived.Test.YtcmaffldmodacaaDag2
import Derived.Test.YtcmaffldmodacaaShape
namespace Go.Ab
open Go
theorem awk_nilmat (id : Nat) (n : Nat) (vs : List V1) (xss : List (List Int)) (s : St) (h : look id s.hp = some (.box n 1 vs)) (hl : xss.length = n) (he : ∀ i, xss.getD i [] = []) (hv : ∀ i, i < n → vs.getD i .any = .nils) : AWk s ⟨s.n, s.tm, ins id (.mat id xss) s.hp⟩ := fun M a hr => by
  have hM := hr.ok
  rw [← hr.hp] at h
  let M' : Mem := ⟨fun k => if k.1 = id ∧ k.2 ≠ none then none else M.μ k, ins id (.mat id xss) s.hp, M.w, M.free⟩
  have hμ0 : ∀ k : Key, k.1 ≠ id → M'.μ k = M.μ k := fun k hk => by show (if k.1 = id ∧ k.2 ≠ none then none else M.μ k) = _; rw [if_neg (fun h => hk h.1)]
  have hμ1 : M'.μ (id, none) = M.μ (id, none) := by show (if id = id ∧ (none : Option Nat) ≠ none then none else M.μ (id, none)) = _; rw [if_neg (fun h => h.2 rfl)]
  have hμ2 : ∀ i, M'.μ (id, some i) = none := fun i => by show (if id = id ∧ some i ≠ none then none else M.μ (id, some i)) = _; rw [if_pos ⟨rfl, by simp⟩]
  have hlk0 : ∀ k : Key, k.1 ≠ id → lk M'.H k = lk M.H k := fun k hk => by show lk (ins id (.mat id xss) s.hp) k = _; rw [lk_ins_ne hk, hr.hp]
  have hlk1 : lk M'.H (id, none) = some (.mat id xss) := lk_ins_self _ _ _
  have hlk2 : ∀ i o, lk M'.H (id, some i) = some o → o = .flat (.ints .i64 []) := fun i o ho => by
    obtain ⟨_, xs2, h2, h3, rfl⟩ := lk_row ho
    have h2' : look id (ins id (.mat id xss) s.hp) = some (.mat _ xs2) := h2
    rw [look_ins_same] at h2'
    cases h2'
    rw [he i]
  have hold : ∀ i o, lk M.H (id, some i) = some o → False := fun i o ho => lk_plain h rfl ho
  have hlive : ∀ b, M'.live b → M.live b := by
    rintro b ⟨⟨x, r⟩, o, p, h1, h2⟩
    by_cases hx : x = id
    · subst hx
      cases r with
      | none => exact ⟨(x, none), _, p, h, by rw [← hμ1]; exact h2⟩
      | some i => rw [hμ2] at h2; cases h2
    · exact ⟨(x, r), o, p, by rw [← hlk0 _ hx]; exact h1, by rw [← hμ0 _ hx]; exact h2⟩
  have hext : Ext noX M M' := by
    refine ⟨⟨rfl, rfl, rfl, Nat.le_refl _, Nat.le_refl _, fun b _ hl => ⟨rfl, fun h => hl (hlive b h)⟩, fun b h => h, fun b h => .inl h⟩, fun x o _ hx => ?_⟩
    by_cases hxi : x.1 = id
    · obtain ⟨x1, r⟩ := x
      simp only at hxi
      subst hxi
      cases r with
      | none =>
        rw [lk_none, h] at hx
        cases hx
        exact ⟨_, hlk1, rfl, (show n ≤ xss.length by omega), hμ1, fun b p cur e _ hc => ⟨cur, hc, rfl⟩⟩
      | some i => exact (hold i o hx).elim
    · exact ⟨o, by rw [hlk0 x hxi]; exact hx, rfl, Nat.le_refl _, hμ0 x hxi, fun b p cur e _ hc => ⟨cur, hc, rfl⟩⟩
  refine ⟨M', ⟨rfl, ?_, hr.defers, hr.size, fun d v hd => ?_⟩, rfl, hext.mono (fun x hx => by cases hx)⟩
  · refine ⟨(show Named s.hp by rw [← hr.hp]; exact hM.named).ins (fun _ _ h => by cases h; rfl), fun b hb => ⟨(hM.fr b hb).1, fun h => (hM.fr b hb).2 (hlive b h)⟩, fun x y o1 o2 b p q hx hy hmx hmy => ?_, fun x o1 hx hm => ?_, fun x o1 b p hx hm => ?_⟩
    · have back : ∀ (x : Key) o b p, lk M'.H x = some o → M'.μ x = some (b, p) → ∃ o1, lk M.H x = some o1 ∧ M.μ x = some (b, p) := by
        intro x o b p hx hm
        by_cases hxi : x.1 = id
        · obtain ⟨x1, r⟩ := x
          simp only at hxi
          subst hxi
          cases r with
          | none => exact ⟨_, h, by rw [← hμ1]; exact hm⟩
          | some i => rw [hμ2] at hm; cases hm
        · exact ⟨o, by rw [← hlk0 x hxi]; exact hx, by rw [← hμ0 x hxi]; exact hm⟩
      obtain ⟨a1, k1, k2⟩ := back x o1 b p hx hmx
      obtain ⟨a2, k3, k4⟩ := back y o2 b q hy hmy
      exact hM.inj x y a1 a2 b p q k1 k3 k2 k4
    · by_cases hxi : x.1 = id
      · obtain ⟨x1, r⟩ := x
        simp only at hxi
        subst hxi
        cases r with
        | none =>
          rw [hlk1] at hx
          cases hx
          have h0 : n = 0 := hM.none_ (x1, none) (.box n 1 vs) h (by rw [← hμ1]; exact hm)
          show xss.length = 0
          omega
        | some i => rw [hlk2 i o1 hx]; rfl
      · exact hM.none_ x o1 (by rw [← hlk0 x hxi]; exact hx) (by rw [← hμ0 x hxi]; exact hm)
    · by_cases hxi : x.1 = id
      · obtain ⟨x1, r⟩ := x
        simp only at hxi
        subst hxi
        cases r with
        | none =>
          rw [hlk1] at hx
          cases hx
          obtain ⟨cur, e, g1, g2, g3⟩ := hM.obj (x1, none) _ b p h (by rw [← hμ1]; exact hm)
          refine ⟨cur, e, g1, by show p + xss.length * 1 ≤ _; rw [hl]; exact g2, fun i hi j hj => ?_⟩
          have hi' : i < xss.length := hi
          have hj' : j < 1 := hj
          obtain rfl : j = 0 := by omega
          obtain ⟨u, k1, k2, k3⟩ := g3 i (by show i < n; omega) 0 (by show 0 < 1; omega)
          refine ⟨u, k1, k2, ?_⟩
          have k3' : VR M (vs.getD (i * 1 + 0) .any) u := k3
          rw [show i * 1 + 0 = i by omega, hv i (by omega)] at k3'
          have k4 : u = .slice none 0 0 := k3'
          subst k4
          show M'.keyRow (x1, some i) (xss.getD i []).length _
          exact ⟨_, lk_of_row (look_ins_same _ _ _) hi', Nat.le_refl _, .inl ⟨by rw [he i]; rfl, none, 0, rfl, Nat.zero_le _, fun _ => rfl⟩⟩
        | some i => rw [hμ2] at hm; cases hm
      · obtain ⟨cur, e, g1, g2, g3⟩ := hM.obj x o1 b p (by rw [← hlk0 x hxi]; exact hx) (by rw [← hμ0 x hxi]; exact hm)
        refine ⟨cur, e, g1, g2, fun i hi j hj => ?_⟩
        obtain ⟨u, k1, k2, k3⟩ := g3 i hi j hj
        exact ⟨u, k1, k2, VR_ext0 hext k3⟩
  · obtain ⟨u, hu, hv⟩ := hr.tm d v hd
    exact ⟨u, hu, AVR_ext0 hext hv⟩
theorem MOk_more {M : Mem} (hM : MOk M) (w1 : World) (f1 : w1.os = M.w.os) (f2 : w1.tape = M.w.tape) (f3 : w1.output = M.w.output) (f4 : M.w.drawn ≤ w1.drawn) (f5 : M.w.heap.size ≤ w1.heap.size)
    (hs : ∀ b cur e, M.w.heap[b]? = some (.cells cur e (0, 0)) → ∃ cur', w1.heap[b]? = some (.cells cur' e (0, 0)) ∧ cur'.size = cur.size ∧ ∀ k o p, lk M.H k = some o → M.μ k = some (b, p) → ∀ q, q < o.len * o.sz → cur'[p + q]? = cur[p + q]?)
    (hst : ∀ b, b < M.w.heap.size → ¬ M.live b → w1.heap[b]? = M.w.heap[b]?) : MOk ⟨M.μ, M.H, w1, M.free⟩ ∧ Ext noX M ⟨M.μ, M.H, w1, M.free⟩ := by
  have hext : Ext noX M ⟨M.μ, M.H, w1, M.free⟩ := by
    refine ⟨⟨f1, f2, f3, f4, f5, fun b hb hl => ⟨hst b hb hl, hl⟩, fun _ h => h, fun _ h => .inl h⟩, fun x o _ hx => ⟨o, hx, rfl, Nat.le_refl _, rfl, fun b p cur e hm hc => ?_⟩⟩
    obtain ⟨c, h1, h2, _⟩ := hs b cur e hc
    exact ⟨c, h1, h2⟩
  refine ⟨⟨hM.named, fun b hb => ⟨Nat.lt_of_lt_of_le (hM.fr b hb).1 f5, (hM.fr b hb).2⟩, hM.inj, hM.none_, fun x o b p hx hm => ?_⟩, hext⟩
  obtain ⟨cur, e, g1, g2, g3⟩ := hM.obj x o b p hx hm
  obtain ⟨c, h1, h2, h3⟩ := hs b cur e g1
  refine ⟨c, e, h1, by rw [h2]; exact g2, fun i hi j hj => ?_⟩
  obtain ⟨u, k1, k2, k3⟩ := g3 i hi j hj
  refine ⟨u, ?_, k2, VR_ext0 hext k3⟩
  rw [h3 x o p hx hm (i * o.sz + j) ?_]
  · exact k1
  · have : (i + 1) * o.sz ≤ o.len * o.sz := Nat.mul_le_mul_right _ hi
    rw [Nat.add_mul] at this; omega
def Grew (z : Nat) (M : Mem) (k : Key) (xs : List Int) (y : Int) (v : Value) (b : Nat) : Prop :=
  ∃ p cap, v = .slice (some ⟨b, p, none⟩) (xs.length + 1) cap ∧ xs.length + 1 ≤ cap ∧ cap ≤ maxLen ∧
    (∃ cur e, M.w.heap[b]? = some (.cells cur e (0, 0)) ∧ p + cap ≤ cur.size ∧ ∀ q, q < xs.length + 1 → cur[p + q]? = some (.int .i64 ((xs ++ [y]).getD q 0))) ∧ (M.μ k = some (b, p) ∨ (¬ M.live b ∧ ¬ M.free b ∧ z ≤ b))
theorem Grew.frame {z : Nat} {M M' : Mem} {k : Key} {xs : List Int} {y : Int} {v : Value} {b : Nat} (h : Grew z M k xs y v b) (hb : M'.w.heap[b]? = M.w.heap[b]?) (hμ : M'.μ k = M.μ k) (hl : ¬ M.live b → ¬ M.free b → ¬ M'.live b ∧ ¬ M'.free b) : Grew z M' k xs y v b := by
  obtain ⟨p, cap, h1, h2, h3, ⟨cur, e, h4, h5⟩, h6⟩ := h
  refine ⟨p, cap, h1, h2, h3, ⟨cur, e, by rw [hb]; exact h4, h5⟩, ?_⟩
  rcases h6 with h6 | ⟨h6, h7, h8⟩
  · exact .inl (by rw [hμ]; exact h6)
  · exact .inr ⟨(hl h6 h7).1, (hl h6 h7).2, h8⟩
theorem Grew.lt {z : Nat} {M : Mem} {k : Key} {xs : List Int} {y : Int} {v : Value} {b : Nat} (h : Grew z M k xs y v b) : b < M.w.heap.size := by
  obtain ⟨_, _, _, _, _, ⟨_, _, h4, _⟩, _⟩ := h
  exact (Array.getElem?_eq_some_iff.1 h4).1
section
variable {P : Program} {T : Nat → Option TI}
theorem grow_app {s : St} {M : Mem} {a : Act} {o : Oper} {t : TypeId} {ti ie : TI} {x y : Operand} {A i n B : Nat} {xss : List (List Int)} {yv : Int} (hT : ∀ t i, T t = some i → TF P t i) (hr : Rel M s a)
    (ho : o.op = .call { callee := .builtin .append, args := #[x, y], argTypes := #[t, t] }) (hti : T t = some ti) (hkd : ti.kind = .slice) (hie : T ti.elem = some ie) (hsz1 : ie.sz = 1)
    (hx : s.raw x = some (.one (.mrow A i n))) (hy : s.raw y = some (.one (.rw B 0 1))) (hA : look A s.hp = some (.mat A xss)) (hB : look B s.hp = some (.flat (.ints .i64 [yv]))) (hi : i < xss.length) (hn : n = (xss.getD i []).length) (hst : strictId A = true)
    (hbytes : (n + 1) * ie.bytes ≤ 140737488355328) (h63 : n + 1 ≤ 9223372036854775807) {z : Nat} (hz : z ≤ M.w.heap.size) :
    ∃ (v : Value) (w1 : World) (b : Nat), (execOp a.eval o).run P M.w = .ok (.value v) w1 ∧ v.oneCell' = true ∧ MOk ⟨M.μ, M.H, w1, M.free⟩ ∧ Ext noX M ⟨M.μ, M.H, w1, M.free⟩ ∧ Grew z ⟨M.μ, M.H, w1, M.free⟩ (A, some i) (xss.getD i []) yv v b ∧
      (∀ b', b' < M.w.heap.size → b' ≠ b → w1.heap[b']? = M.w.heap[b']?) ∧ (M.w.heap.size ≤ b ∨ ∃ p, M.μ (A, some i) = some (b, p)) := by
  have hM := hr.ok
  have hxv := raw_sound hr hx
  have hyv := raw_sound hr hy
  rw [← hr.hp] at hA hB
  have hu := kind_slice (hT _ _ hti) hkd
  have hF := hT _ _ hie
  obtain ⟨tj, zv, g1, g2, g3, g4, g5, g6⟩ := zero_len (M := M) hF
  rw [hsz1] at g2
  have hzs : zv.cells.size = 1 := by
    have := hF.szz
    rw [g5]; omega
  obtain ⟨oB, b1, b2, b3⟩ := hyv
  rw [lk_none, hB] at b1
  cases b1
  obtain ⟨bB, pB, aB, cB, b4, b5, b6, b7, b8, _⟩ := b3.resolve_left (fun q => absurd q.1 (by decide))
  obtain ⟨curB, eB, b9, b10, b11⟩ := hM.obj (B, none) _ bB pB hB b4
  obtain ⟨uR, c1, c2, c3⟩ := b11 0 (by show 0 < 1; omega) 0 (by show 0 < 1; omega)
  have huR : uR = .int .i64 yv := c3
  have hcellB : M.w.cell? ⟨bB, aB + 0, none⟩ = some uR := by
    rw [cell_of_row _ _ _ _ _ _ b9, ← c1, b8]
    rfl
  have hx1 : ∀ w' : World, w'.heap = M.w.heap → (Builtin.firstCells tj.size 1 (.slice (some ⟨bB, aB, none⟩) 1 cB)).run P w' = .ok ([uR] : List Value).toArray w' := by
    intro w' hw'
    refine firstCells_slice (by rw [g2]; rfl) (fun h => by cases h) (fun b off s hA hne => ?_)
    cases hA
    refine ⟨rfl, fun k v hk => ?_⟩
    have hk0 : k = 0 := by
      rcases Nat.eq_zero_or_pos k with q | q
      · exact q
      · rw [List.getElem?_eq_none (by simp; omega)] at hk; cases hk
    subst hk0
    have hv : v = uR := (Option.some.inj hk).symm
    rw [hv]
    exact (World.cell?_of_block (w := M.w) (w' := w') (a := ⟨bB, aB + 0, none⟩) (by rw [hw'])).trans hcellB
  have hrunop : ∀ (v : Value) (w' : World), (Builtin.append_ #[t, t] o.type #[a.eval x, a.eval y]).run P M.w = .ok v w' → (execOp a.eval o).run P M.w = .ok (.value v) w' := by
    intro v w' hr
    simp only [execOp, ho, resolve, Sem.run_bind, Sem.run_pure, Result.andThen_ok, invoke, builtin, List.map_toArray, List.map_cons, List.map_nil, hr]
  have hnew : ¬ M.live M.w.heap.size ∧ ¬ M.free M.w.heap.size := by
    refine ⟨?_, fun h => by have := (hM.fr _ h).1; omega⟩
    rintro ⟨k, o1, p, h1, h2⟩
    obtain ⟨_, _, h3, _⟩ := hM.obj k o1 _ p h1 h2
    have := (Array.getElem?_eq_some_iff.1 h3).1
    omega
  obtain ⟨xs, hxs⟩ : ∃ xs, xss.getD i [] = xs := ⟨_, rfl⟩
  rw [hxs] at hn ⊢
  have hlkA : lk M.H (A, some i) = some (.flat (.ints .i64 xs)) := by rw [← hxs]; exact lk_of_row hA hi
  have hgl : ∀ q, q < xs.length → (xs ++ [yv]).getD q 0 = xs.getD q 0 := fun q hq => by
    rw [List.getD_eq_getElem?_getD, List.getElem?_append_left hq, ← List.getD_eq_getElem?_getD]
  have hge' : (xs ++ [yv]).getD xs.length 0 = yv := by rw [List.getD_eq_getElem?_getD, List.getElem?_append_right (Nat.le_refl _)]; simp
  have fresh : ∀ (A0 : Option Addr) (cap : Nat) (olds : List Value), a.eval x = .slice A0 n cap → olds.length = n → (∀ q v, olds[q]? = some v → v = Value.int .i64 (xs.getD q 0)) → (∀ w' : World, w'.heap = M.w.heap → (Builtin.firstCells tj.size n (.slice A0 n cap)).run P w' = .ok olds.toArray w') → cap < n + 1 →
      ∃ (v : Value) (w1 : World) (b : Nat), (execOp a.eval o).run P M.w = .ok (.value v) w1 ∧ v.oneCell' = true ∧ MOk ⟨M.μ, M.H, w1, M.free⟩ ∧ Ext noX M ⟨M.μ, M.H, w1, M.free⟩ ∧ Grew z ⟨M.μ, M.H, w1, M.free⟩ (A, some i) xs yv v b ∧
      (∀ b', b' < M.w.heap.size → b' ≠ b → w1.heap[b']? = M.w.heap[b']?) ∧ (M.w.heap.size ≤ b ∨ ∃ p, M.μ (A, some i) = some (b, p)) := by
    intro A0 cap olds hua hol hov hs hroom
    have hge := grownCap_ge M.w (n + 1) cap ti.elem
    have hncm := grownCap_le_maxLen M.w (n + 1) cap ti.elem (by simp only [maxLen]; omega)
    have hrun := run_app_grow (P := P) (w := M.w) (ty := o.type) hu g1 g4 hs hx1 (by omega) h63 (by rw [g3]; exact hbytes)
    rw [← hua, ← b5] at hrun
    have hall := MOk_more hM (M.w.drew.alloc (.cells (olds.toArray ++ ([uR] : List Value).toArray ++ Builtin.zeroCells zv.cells (grownCap M.w (n + 1) cap ti.elem - (n + 1))) ti.elem)) rfl rfl rfl (Nat.le_succ _) (by simp) (fun b c e hc => ⟨c, (heap_alloc_old M.w.drew _ (Array.getElem?_eq_some_iff.1 hc).1).trans hc, rfl, fun _ _ _ _ _ _ _ => rfl⟩) (fun b hb _ => heap_alloc_old M.w.drew _ hb)
    refine ⟨_, _, M.w.heap.size, hrunop _ _ hrun, rfl, hall.1, hall.2, ⟨0, grownCap M.w (n + 1) cap ti.elem, by rw [← hn], by rw [← hn]; exact hge, hncm, ⟨_, _, heap_alloc_new M.w.drew _, ?_, fun q hq => ?_⟩, .inr ⟨hnew.1, hnew.2, hz⟩⟩, fun b' hb' _ => heap_alloc_old M.w.drew _ hb', .inl (Nat.le_refl _)⟩
    · simp only [Array.size_append, List.size_toArray, size_zeroCells, hzs, hol, List.length_cons, List.length_nil]; omega
    · rw [Nat.zero_add, Array.append_assoc]
      by_cases h : q < n
      · rw [Array.getElem?_append_left (by simp; omega), hgl q (by omega)]
        have hlt : q < olds.length := by omega
        have := hov q _ (List.getElem?_eq_getElem hlt)
        simp only [List.getElem?_toArray, List.getElem?_eq_getElem hlt, this]
      · have hqn : q = xs.length := by omega
        rw [Array.getElem?_append_right (by simp; omega), Array.getElem?_append_left (by simp; omega), hqn, hge', ← huR]
        simp [hol, ← hn]
  obtain ⟨oA, a1, a2, a3⟩ := hxv
  rcases a3 with ⟨k0, A0, cap, hua, hcap, hc0⟩ | ⟨b, p, cap, m1, hua, m3, m4, c0, e0, m6, m7⟩
  ·
    have hc := hc0 hst
    subst hc
    refine fresh A0 0 [] (by rw [hua, k0]) (by rw [k0]; rfl) (fun q v h => by cases h) (fun w' _ => ?_) (by omega)
    rw [k0]
    cases A0 <;> simp [Builtin.firstCells, loadCells, loadCellsFrom]
  · obtain ⟨c0', e0', k1, k2, k3⟩ := hM.obj (A, some i) _ b p hlkA m1
    rw [m6] at k1
    simp only [Option.some.injEq, Obj.cells.injEq] at k1
    obtain ⟨rfl, rfl, _⟩ := k1
    have hrow : ∀ q, q < xs.length → c0[p + q]? = some (.int .i64 (xs.getD q 0)) := fun q hq => by
      obtain ⟨u, r1, r2, r3⟩ := k3 q hq 0 (by show 0 < 1; omega)
      have r3' : u = .int .i64 (xs.getD q 0) := r3
      rw [← r3', ← r1]; congr 1
      show p + q = p + (q * 1 + 0); omega
    have hlive : M.live b := ⟨_, _, p, hlkA, m1⟩
    by_cases hroom : n + 1 ≤ cap
    · have hrun := run_app_stay (P := P) (w := M.w) (ty := o.type) hu g1 (b := b) (a := p) (Ax := some ⟨bB, aB, none⟩) (len := n) (cap := cap) (n := 1) (capx := cB) (news := [uR]) (hx1 M.w rfl) hroom m6 (by rw [g2]; simp; omega) (by intro v hv; rw [List.mem_singleton] at hv; rw [hv]; exact c2)
      rw [← hua, ← b5, g2] at hrun
      generalize hcc : (c0.toList.take (p + n * 1) ++ [uR] ++ c0.toList.drop (p + n * 1 + [uR].length)).toArray = cur2 at hrun
      have hc2s : cur2.size = c0.size := by rw [← hcc]; simp; omega
      have hat : ∀ k, cur2[k]? = if p + n ≤ k ∧ k < p + n + 1 then some uR else c0[k]? := by
        intro k
        rw [← hcc, List.getElem?_toArray, splice_at _ _ _ _ (by simp; omega)]
        rw [show p + n * 1 = p + n by omega]
        simp only [List.length_cons, List.length_nil, Nat.zero_add]
        by_cases h : p + n ≤ k ∧ k < p + n + 1
        · rw [if_pos h, if_pos h]
          have : k - (p + n) = 0 := by omega
          rw [this]; rfl
        · rw [if_neg h, if_neg h]; simp
      have hall := MOk_more hM (M.w.setRow b cur2) rfl rfl rfl (Nat.le_refl _) (by simp) (fun b' c e hc => by
        by_cases hb : b' = b
        · subst hb
          rw [m6] at hc
          cases hc
          refine ⟨cur2, setRow_heap _ _ _ _ _ _ m6, hc2s, fun k o1 p1 h1 h2 q hq => ?_⟩
          obtain rfl := hM.inj k (A, some i) o1 _ b' p1 p h1 hlkA h2 m1
          rw [hlkA] at h1
          cases h1
          rw [m1] at h2
          cases h2
          have hq' : q < xs.length * 1 := hq
          rw [hat, if_neg (by omega)]
        · exact ⟨c, (setRow_other _ _ _ _ hb).trans hc, rfl, fun _ _ _ _ _ _ _ => rfl⟩) (fun b' _ hl => setRow_other _ _ _ _ (fun e => hl (e ▸ hlive)))
      refine ⟨_, _, b, hrunop _ _ hrun, rfl, hall.1, hall.2, ⟨p, cap, by rw [← hn], by rw [← hn]; exact hroom, m4, ⟨cur2, e0, setRow_heap _ _ _ _ _ _ m6, by rw [hc2s]; exact m7, fun q hq => ?_⟩, .inl m1⟩, fun b' _ hne => setRow_other _ _ _ _ hne, .inr ⟨p, m1⟩⟩
      rw [hat]
      by_cases h : q < n
      · rw [if_neg (by omega), hgl q (by omega)]
        exact hrow q (by omega)
      · have hqn : q = xs.length := by omega
        rw [if_pos (by omega), hqn, hge', huR]
    · obtain ⟨olds, ol, oc, ov⟩ := row_list (w := M.w) (b := b) (off := p) (len := n) (z := 1) (C := fun q _ v => v = .int .i64 (xs.getD q 0)) (fun q hq j hj => by
        refine ⟨_, ?_, rfl⟩
        rw [cell_of_row _ _ _ _ _ _ m6, ← hrow q (by omega)]
        congr 1
        omega)
      refine fresh (some ⟨b, p, none⟩) cap olds hua (by omega) (fun q v hq => ?_) (fun w' hw' => ?_) (by omega)
      · have hlt := (List.getElem?_eq_some_iff.1 hq).1
        obtain ⟨v', v1, v2⟩ := ov q 0 (by omega) (by omega)
        rw [show q * 1 + 0 = q by omega, hq] at v1
        cases v1
        exact v2
      · refine firstCells_slice (by rw [g2]; exact ol) (fun h => (by cases h)) (fun b' off' s' hA hne => ?_)
        cases hA
        exact ⟨rfl, fun k v hk => (World.cell?_of_block (w := M.w) (w' := w') (a := ⟨b, p + k, none⟩) (by rw [hw'])).trans (oc k v hk)⟩
def FreeK (M M' : Mem) : Prop := ∀ b, M.free b → ¬ M.live b → M'.free b ∧ ¬ M'.live b ∧ M'.w.heap[b]? = M.w.heap[b]?
theorem rowAt_fr {M M' : Mem} {len sz : Nat} {C C' : Nat → Nat → Value → Prop} {b off : Nat} (hk : FreeK M M') (hC : ∀ i j u, C i j u → C' i j u) (h : M.rowAt len sz C b off) : M'.rowAt len sz C' b off := by
  obtain ⟨⟨hf, hl⟩, hc⟩ := h
  obtain ⟨h1, h2, h3⟩ := hk b hf hl
  refine ⟨⟨h1, h2⟩, fun i hi j hj => ?_⟩
  obtain ⟨u, hu, hcu⟩ := hc i hi j hj
  exact ⟨u, (World.cell?_of_block (w := M.w) (w' := M'.w) (a := ⟨b, off + (i * sz + j), none⟩) h3).trans hu, hC i j u hcu⟩
theorem roSl_fr {M M' : Mem} {len sz : Nat} {C C' : Nat → Nat → Value → Prop} {v : Value} (hk : FreeK M M') (hC : ∀ i j u, C i j u → C' i j u) (h : M.roSl len sz C v) : M'.roSl len sz C' v := by
  obtain ⟨A, cap, rfl, h1, h2, h3⟩ := h
  refine ⟨A, cap, rfl, h1, h2, ?_⟩
  rcases h3 with h3 | ⟨b, off, rfl, hr⟩
  · exact .inl h3
  · exact .inr ⟨b, off, rfl, rowAt_fr hk hC hr⟩
theorem roPt_fr {M M' : Mem} {len sz : Nat} {C C' : Nat → Nat → Value → Prop} {i j : Nat} {v : Value} (hk : FreeK M M') (hC : ∀ i j u, C i j u → C' i j u) (h : M.roPt len sz C i j v) : M'.roPt len sz C' i j v := by
  obtain ⟨hi, hj, b, off, rfl, hr⟩ := h
  exact ⟨hi, hj, b, off, rfl, rowAt_fr hk hC hr⟩
theorem VF_fr {M M' : Mem} {v : V1} {u : Value} (hk : FreeK M M') (h : VF M v u) : VF M' v u := by
  cases v <;> simp only [VF] at h ⊢ <;> try exact h
  case ro c => exact roSl_fr hk (fun _ _ _ h => h) h
  case rp c i j => exact roPt_fr hk (fun _ _ _ h => h) h
def dropR (A : Nat) : V1 → V1
  | .mrow x i len => cond (Nat.beq x A) .any (.mrow x i len)
  | .mptr x i j => cond (Nat.beq x A) .any (.mptr x i j)
  | v => v
theorem dropR_low (A : Nat) (v : V1) (h : v.low = true) (_ : noFn v = true) : dropR A v = v := by cases v <;> first | rfl | cases h
def growH (A i : Nat) (xss : List (List Int)) (ys : List Int) (hp : Heap) : Heap := ins A (.mat A (xss.set i ys)) (mapV (liftO (dropR A)) hp)
theorem grow_store {s : St} {M : Mem} {a : Act} {o : Oper} {t : TypeId} {ti : TI} {x y : Operand} {A i b : Nat} {xss : List (List Int)} {yv : Int} (hT : ∀ t i, T t = some i → TF P t i) (hr : Rel M s a)
    (ho : o.op = .store t x y) (hti : T t = some ti) (hsz1 : ti.sz = 1) (hx : s.raw x = some (.one (.ptr A i 0))) {M0 : Mem} (he : Ext big M0 M) (hG : Grew M0.w.heap.size M (A, some i) (xss.getD i []) yv (a.eval y) b) (hA : look A s.hp = some (.mat A xss)) (hi : i < xss.length) (hbA : big A = true) :
    ∃ M' : Mem, (execOp a.eval o).run P M.w = .ok .skip M'.w ∧ Ext big M0 M' ∧ Rel M' ⟨s.n, mapV (liftA (dropR A)) s.tm, growH A i xss (xss.getD i [] ++ [yv]) s.hp⟩ a ∧
      ∀ z j xs2 y2 v2 b2, j < xss.length → j ≠ i → b2 ≠ b → Grew z M (A, some j) xs2 y2 v2 b2 → Grew z M' (A, some j) xs2 y2 v2 b2 := by
  have hM := hr.ok
  have hxv := raw_sound hr hx
  rw [← hr.hp] at hA
  obtain ⟨oA, bA, pA, hlA, hμA, hux⟩ := hxv
  rw [lk_none, hA] at hlA
  cases hlA
  have hux' : a.eval x = .pointer (some ⟨bA, pA + (i * 1 + 0), none⟩) := hux
  obtain ⟨ys, hys⟩ : ∃ ys, xss.getD i [] ++ [yv] = ys := ⟨_, rfl⟩
  have hyl : ys.length = (xss.getD i []).length + 1 := by rw [← hys, List.length_append]; rfl
  obtain ⟨p1, cap1, G1, G2, G3, ⟨cG, eG, G4, G5, G6⟩, G7⟩ := hG
  rw [hys] at G6 ⊢
  rw [← hyl] at G1 G2 G6
  generalize huy : a.eval y = uy at G1
  have huc : uy.oneCell' = true := by rw [G1]; rfl
  have hlkA : lk M.H (A, some i) = some (.flat (.ints .i64 (xss.getD i []))) := lk_of_row hA hi
  have hbs : b < M.w.heap.size := (Array.getElem?_eq_some_iff.1 G4).1
  have hbne : b ≠ bA := by
    rintro rfl
    rcases G7 with h | ⟨h, _, _⟩
    · exact absurd (hM.inj (A, some i) (A, none) _ _ b p1 pA hlkA hA h hμA) (by simp)
    · exact h ⟨(A, none), _, pA, hA, hμA⟩
  have hother : ∀ (k : Key) o1 q, lk M.H k = some o1 → M.μ k = some (b, q) → k = (A, some i) := by
    intro k o1 q h1 h2
    rcases G7 with h | ⟨h, _, _⟩
    · exact hM.inj k (A, some i) o1 _ b q p1 h1 hlkA h2 h
    · exact absurd ⟨k, o1, q, h1, h2⟩ h
  have hbfree : ¬ M.free b := by
    rcases G7 with h | ⟨_, h, _⟩
    · exact fun hf => (hM.fr b hf).2 ⟨_, _, p1, hlkA, h⟩
    · exact h
  obtain ⟨cur, e, hcur, hfit, hcells⟩ := hM.obj (A, none) _ bA pA hA hμA
  have hfit' : pA + xss.length * 1 ≤ cur.size := hfit
  let cur' : Array Value := (cur.toList.take (pA + (i * 1 + 0)) ++ [uy] ++ cur.toList.drop (pA + (i * 1 + 0) + [uy].length)).toArray
  let M' : Mem := ⟨fun k => if k = (A, some i) then some (b, p1) else M.μ k, growH A i xss ys s.hp, M.w.setRow bA cur', M.free⟩
  have hcs : cur'.size = cur.size := by simp [cur']; omega
  have hat : ∀ k, cur'[k]? = if pA + i ≤ k ∧ k < pA + i + 1 then some uy else cur[k]? := by
    intro k
    show ((cur.toList.take (pA + (i * 1 + 0)) ++ [uy] ++ cur.toList.drop (pA + (i * 1 + 0) + [uy].length)).toArray)[k]? = _
    rw [List.getElem?_toArray, splice_at _ _ _ _ (by simp; omega)]
    have e1 : pA + (i * 1 + 0) = pA + i := by omega
    rw [e1]
    simp only [List.length_cons, List.length_nil, Nat.zero_add]
    by_cases h : pA + i ≤ k ∧ k < pA + i + 1
    · rw [if_pos h, if_pos h]
      have : k - (pA + i) = 0 := by omega
      rw [this]; rfl
    · rw [if_neg h, if_neg h]; simp
  have hb' : M'.w.heap[bA]? = some (.cells cur' e (0, 0)) := setRow_heap _ _ _ _ _ _ hcur
  have hbo : ∀ b, b ≠ bA → M'.w.heap[b]? = M.w.heap[b]? := fun b hb => setRow_other _ _ _ _ hb
  have hblk : ∀ (b : Nat) (c : Array Value) (e0 : TypeId), M.w.heap[b]? = some (Go.Obj.cells c e0 (0, 0)) → ∃ c' : Array Value, M'.w.heap[b]? = some (Go.Obj.cells c' e0 (0, 0)) ∧ c'.size = c.size := by
    intro b c e0 h
    by_cases hb : b = bA
    · subst hb
      rw [hcur] at h
      cases h
      exact ⟨cur', hb', hcs⟩
    · exact ⟨c, (hbo b hb).trans h, rfl⟩
  have hget : ∀ r, (xss.set i ys).getD r [] = if r = i then ys else xss.getD r [] := by
    intro r
    simp only [List.getD_eq_getElem?_getD]
    by_cases h : r = i
    · subst h; rw [if_pos rfl, List.getElem?_set_self hi]; rfl
    · rw [if_neg h, List.getElem?_set_ne (Ne.symm h)]
  have hlen' : (xss.set i ys).length = xss.length := by simp
  have hμi : M'.μ (A, some i) = some (b, p1) := by show (if (A, some i) = (A, some i) then some (b, p1) else M.μ (A, some i)) = _; rw [if_pos rfl]
  have hμo : ∀ k : Key, k ≠ (A, some i) → M'.μ k = M.μ k := fun k hk => by show (if k = (A, some i) then some (b, p1) else M.μ k) = _; rw [if_neg hk]
  have lkA : look A M'.H = some (.mat A (xss.set i ys)) := look_ins_same _ _ _
  have lkAr : ∀ r, r < xss.length → lk M'.H (A, some r) = some (.flat (.ints .i64 (if r = i then ys else xss.getD r []))) := fun r hr' => by
    rw [lk_of_row lkA (by rw [hlen']; exact hr'), hget]
  have lkAr' : ∀ r o', lk M'.H (A, some r) = some o' → r < xss.length ∧ o' = .flat (.ints .i64 (if r = i then ys else xss.getD r [])) := fun r o' h => by
    obtain ⟨_, xs2, h2, h3, rfl⟩ := lk_row h
    rw [lkA] at h2
    cases h2
    rw [hlen'] at h3
    exact ⟨h3, by rw [hget]⟩
  have lkO : ∀ (k : Key) o', k.1 ≠ A → lk M'.H k = some o' → ∃ o1, lk M.H k = some o1 ∧ o' = liftO (dropR A) o1 := by
    intro k o' hk h
    have h' : lk (ins A (.mat A (xss.set i ys)) (mapV (liftO (dropR A)) s.hp)) k = some o' := h
    rw [lk_ins_ne hk, lk_lift, Option.map_eq_some_iff] at h'
    obtain ⟨o1, h1, rfl⟩ := h'
    exact ⟨o1, by rw [hr.hp]; exact h1, rfl⟩
  have lkO' : ∀ (k : Key) o1, k.1 ≠ A → lk M.H k = some o1 → lk M'.H k = some (liftO (dropR A) o1) := by
    intro k o1 hk h1
    show lk (ins A (.mat A (xss.set i ys)) (mapV (liftO (dropR A)) s.hp)) k = _
    rw [lk_ins_ne hk, lk_lift, ← hr.hp, h1]; rfl
  have back : ∀ (k : Key) o', k ≠ (A, some i) → lk M'.H k = some o' → ∃ o0, lk M.H k = some o0 ∧ M'.μ k = M.μ k ∧ o'.len = o0.len := by
    intro k o' hk h
    by_cases hkA : k.1 = A
    · obtain ⟨k1, r⟩ := k
      simp only at hkA
      subst hkA
      cases r with
      | none =>
        have h' : look k1 M'.H = some o' := h
        rw [lkA] at h'
        cases h'
        exact ⟨_, hA, hμo _ hk, hlen'⟩
      | some r =>
        obtain ⟨h1, rfl⟩ := lkAr' r o' h
        have hri : r ≠ i := by rintro rfl; exact hk rfl
        rw [if_neg hri]
        exact ⟨_, lk_of_row hA h1, hμo _ hk, rfl⟩
    · obtain ⟨o1, h2, rfl⟩ := lkO k o' hkA h
      exact ⟨o1, h2, hμo _ hk, liftO_len _ _⟩
  have hlive : ∀ b', M'.live b' → M.live b' ∨ b' = b := by
    rintro b' ⟨k, o', p, h1, h2⟩
    by_cases hk : k = (A, some i)
    · subst hk
      rw [hμi] at h2
      cases h2
      exact .inr rfl
    · obtain ⟨o0, h3, h4, _⟩ := back k o' hk h1
      exact .inl ⟨_, o0, p, h3, by rw [← h4]; exact h2⟩
  have hfk : FreeK M M' := fun b' hf hl => ⟨hf, fun h => (hlive b' h).elim hl (fun e => hbfree (e ▸ hf)), hbo b' (fun e => hl (e ▸ ⟨(A, none), _, pA, hA, hμA⟩))⟩
  have hkeep0 : Keep M0 M' := by
    refine ⟨he.os, he.tape, he.output, he.drawn, ?_, fun b' hb hl => ?_, fun b' h => he.free_ b' h, fun b' h => he.only b' h⟩
    · have h1 : M'.w.heap.size = M.w.heap.size := by simp [M']
      rw [h1]; exact he.size
    · obtain ⟨h1, h2⟩ := he.still b' hb hl
      refine ⟨(hbo b' (fun e => h2 (e ▸ ⟨(A, none), _, pA, hA, hμA⟩))).trans h1, fun h => ?_⟩
      rcases hlive b' h with h3 | h3
      · exact h2 h3
      · subst h3
        rcases G7 with h4 | ⟨_, _, h4⟩
        · exact h2 ⟨_, _, p1, hlkA, h4⟩
        · omega
  have hmapR : ∀ (len : Nat) (v : Value) (x : Nat) (μk : Option (Nat × Nat)), ((len = 0 ∧ ∃ A cap, v = .slice A 0 cap ∧ cap ≤ maxLen ∧ (strictId x = true → cap = 0)) ∨ ∃ b p cap, μk = some (b, p) ∧ v = .slice (some ⟨b, p, none⟩) len cap ∧ len ≤ cap ∧ cap ≤ maxLen ∧ ∃ cur e, M.w.heap[b]? = some (Go.Obj.cells cur e (0, 0)) ∧ p + cap ≤ cur.size) →
      ((len = 0 ∧ ∃ A cap, v = .slice A 0 cap ∧ cap ≤ maxLen ∧ (strictId x = true → cap = 0)) ∨ ∃ b p cap, μk = some (b, p) ∧ v = .slice (some ⟨b, p, none⟩) len cap ∧ len ≤ cap ∧ cap ≤ maxLen ∧ ∃ cur e, M'.w.heap[b]? = some (Go.Obj.cells cur e (0, 0)) ∧ p + cap ≤ cur.size) := by
    intro len v x μk h
    rcases h with h | ⟨b, p, cap, m1, m2, m3, m4, c1, e1, m6, m7⟩
    · exact .inl h
    · obtain ⟨c2, q1, q2⟩ := hblk b c1 e1 m6
      exact .inr ⟨b, p, cap, m1, m2, m3, m4, c2, e1, q1, by rw [q2]; exact m7⟩
  have hturn : Turns (dropR A) M M' := by
    intro v u hn' hv
    have hnf : noFn (dropR A v) = true := by
      cases v <;> first | rfl | (cases hn'; done) | skip
      all_goals (simp only [dropR]; cases Nat.beq _ _ <;> rfl)
    refine ⟨hnf, ?_⟩
    by_cases hlow : v.low = true
    · rw [dropR_low A v hlow hn', VM_low hlow]
      rw [VM_low hlow] at hv
      exact VF_fr hfk hv
    · cases v <;> first | exact absurd rfl hlow | skip
      case ptr z i' j' =>
        simp only [dropR]
        obtain ⟨o1, b, p, h1, h2, rfl⟩ := hv
        by_cases hzA : z = A
        · subst hzA
          rw [lk_none, hA] at h1
          cases h1
          exact ⟨_, b, p, lkA, by rw [hμo (z, none) (by simp)]; exact h2, rfl⟩
        · exact ⟨_, b, p, lkO' (z, none) o1 hzA h1, by rw [hμo (z, none) (by simp)]; exact h2, by rw [liftO_sz]⟩
      case rw z off len =>
        simp only [dropR]
        obtain ⟨o1, h1, h2, h3⟩ := hv
        have key : ∃ o', lk M'.H (z, none) = some o' ∧ o'.sz = o1.sz ∧ o1.len = o'.len := by
          by_cases hzA : z = A
          · subst hzA
            rw [lk_none, hA] at h1
            cases h1
            exact ⟨_, lkA, rfl, hlen'.symm⟩
          · exact ⟨_, lkO' (z, none) o1 hzA h1, liftO_sz _ _, (liftO_len _ _).symm⟩
        obtain ⟨o', g1, g2, g3⟩ := key
        refine ⟨o', g1, by omega, ?_⟩
        rw [g2, hμo (z, none) (by simp)]
        rcases h3 with h3 | ⟨b, p, a1, cap, m1, m2, m3, m4, m5, c1, e1, m6, m7⟩
        · exact .inl h3
        · obtain ⟨c2, q1, q2⟩ := hblk b c1 e1 m6
          exact .inr ⟨b, p, a1, cap, m1, m2, m3, m4, m5, c2, e1, q1, by rw [q2]; exact m7⟩
      case mptr z i' j' =>
        simp only [dropR]
        by_cases hz : z = A
        · subst hz
          rw [beq_self]
          exact VM_oneCell hv
        · rw [beq_ne hz]
          obtain ⟨o1, b, p, h1, h2, rfl⟩ := hv
          exact ⟨_, b, p, lkO' (z, some i') o1 hz h1, by rw [hμo (z, some i') (fun e => hz (congrArg Prod.fst e))]; exact h2, by rw [liftO_sz]⟩
      case mrow z i' len =>
        simp only [dropR]
        by_cases hz : z = A
        · subst hz
          rw [beq_self]
          exact VM_oneCell hv
        · rw [beq_ne hz]
          obtain ⟨o1, h1, h2, h3⟩ := hv
          refine ⟨_, lkO' (z, some i') o1 hz h1, by rw [liftO_len]; exact h2, ?_⟩
          rw [hμo (z, some i') (fun e => hz (congrArg Prod.fst e))]
          exact hmapR len u z _ h3
      case rs c => exact roSl_fr hfk (fun _ _ _ h => VF_fr hfk h) hv
      case rq c i j => exact roPt_fr hfk (fun _ _ _ h => VF_fr hfk h) hv
  have hok : MOk M' := by
    refine ⟨(((show Named s.hp by rw [← hr.hp]; exact hM.named).lift _).ins (fun _ _ h => by cases h; rfl)), fun b' hb => ⟨Nat.lt_of_lt_of_le (hM.fr b' hb).1 (by simp [M']), fun h => (hlive b' h).elim (hM.fr b' hb).2 (fun e => hbfree (e ▸ hb))⟩, fun k1 k2 o1 o2 b' p q h1 h2 m1 m2 => ?_, fun k o' h hm => ?_, fun k o' b' p h hm => ?_⟩
    · by_cases e1 : k1 = (A, some i)
      · by_cases e2 : k2 = (A, some i)
        · rw [e1, e2]
        · rw [e1, hμi] at m1
          cases m1
          obtain ⟨a2, g4, g5, _⟩ := back k2 o2 e2 h2
          rw [g5] at m2
          exact absurd (hother k2 a2 q g4 m2) e2
      · obtain ⟨a1, g1, g2, _⟩ := back k1 o1 e1 h1
        rw [g2] at m1
        by_cases e2 : k2 = (A, some i)
        · rw [e2, hμi] at m2
          cases m2
          exact absurd (hother k1 a1 p g1 m1) e1
        · obtain ⟨a2, g4, g5, _⟩ := back k2 o2 e2 h2
          rw [g5] at m2
          exact hM.inj k1 k2 a1 a2 b' p q g1 g4 m1 m2
    · have hki : k ≠ (A, some i) := by rintro rfl; rw [hμi] at hm; cases hm
      obtain ⟨o0, h1, h2, h3⟩ := back k o' hki h
      rw [h3]
      exact hM.none_ _ o0 h1 (by rw [← h2]; exact hm)
    · by_cases hkn : k = (A, none)
      · subst hkn
        have h' : look A M'.H = some o' := h
        rw [lkA] at h'
        cases h'
        rw [hμo (A, none) (by simp), hμA] at hm
        cases hm
        refine ⟨cur', e, hb', by rw [hcs]; show pA + (xss.set i ys).length * 1 ≤ _; rw [hlen']; exact hfit', fun r hr' j hj => ?_⟩
        have hr2 : r < xss.length := by have : r < (xss.set i ys).length := hr'; omega
        have hj0 : j = 0 := by have : j < 1 := hj; omega
        subst hj0
        show ∃ u, cur'[pA + (r * 1 + 0)]? = some u ∧ u.oneCell' = true ∧ M'.keyRow (A, some r) ((xss.set i ys).getD r []).length u
        rw [hat, hget]
        by_cases hri : r = i
        · subst hri
          rw [if_pos (by omega), if_pos rfl]
          refine ⟨uy, rfl, huc, _, lkAr r hr2, by rw [if_pos rfl]; exact Nat.le_refl _, .inr ⟨b, p1, cap1, hμi, G1, G2, G3, cG, eG, (hbo b hbne).trans G4, G5⟩⟩
        · rw [if_neg (by omega), if_neg hri]
          obtain ⟨u, k1, k2, k3⟩ := hcells r hr2 0 (by show 0 < 1; omega)
          refine ⟨u, k1, k2, ?_⟩
          have k3' : M.keyRow (A, some r) (xss.getD r []).length u := k3
          obtain ⟨o1, q1, q2, q3⟩ := k3'
          refine ⟨_, lkAr r hr2, by rw [if_neg hri]; exact Nat.le_refl _, ?_⟩
          rw [hμo (A, some r) (fun e => hri (Option.some.inj (congrArg Prod.snd e)))]
          exact hmapR _ u A _ q3
      · by_cases hki : k = (A, some i)
        · subst hki
          rw [hμi] at hm
          cases hm
          obtain ⟨_, rfl⟩ := lkAr' i o' h
          rw [if_pos rfl]
          refine ⟨cG, eG, (hbo b hbne).trans G4, by show p1 + ys.length * 1 ≤ _; omega, fun q hq j hj => ?_⟩
          have hq' : q < ys.length := hq
          have hj0 : j = 0 := by have : j < 1 := hj; omega
          subst hj0
          exact ⟨_, by show cG[p1 + (q * 1 + 0)]? = _; rw [show p1 + (q * 1 + 0) = p1 + q by omega]; exact G6 q hq', rfl, rfl⟩
        · obtain ⟨o0, g1, g2, g3⟩ := back k o' hki h
          rw [g2] at hm
          have hbb : b' ≠ bA := by
            rintro rfl
            exact hkn (hM.inj k (A, none) o0 _ b' p pA g1 hA hm hμA)
          by_cases hkA : k.1 = A
          · obtain ⟨k1, r⟩ := k
            simp only at hkA
            subst hkA
            cases r with
            | none => exact absurd rfl hkn
            | some r =>
              obtain ⟨h1, rfl⟩ := lkAr' r o' h
              have hri : r ≠ i := by rintro rfl; exact hki rfl
              rw [if_neg hri]
              have g1' := lk_of_row hA h1
              obtain ⟨c1, e1, q1, q2, q3⟩ := hM.obj _ _ b' p g1' hm
              refine ⟨c1, e1, (hbo b' hbb).trans q1, q2, fun i' hi' j hj => ?_⟩
              obtain ⟨u, w1, w2, w3⟩ := q3 i' hi' j hj
              exact ⟨u, w1, w2, C0_cell_VR (c := .ints .i64 (xss.getD r [])) (i := i') (j := j) (C0_cell_back (M := M) (i := i') (j := j) w3)⟩
          · obtain ⟨o1, h1, rfl⟩ := lkO k o' hkA h
            obtain ⟨c1, e1, q1, q2, q3⟩ := hM.obj k o1 b' p h1 hm
            refine ⟨c1, e1, (hbo b' hbb).trans q1, by rw [liftO_len, liftO_sz]; exact q2, fun i' hi' j hj => ?_⟩
            rw [liftO_len] at hi'
            rw [liftO_sz] at hj ⊢
            obtain ⟨u, w1, w2, w3⟩ := q3 i' hi' j hj
            refine ⟨u, w1, w2, liftO_cellM hturn (dropR_low A) (fun z zs hz i2 n2 => ?_) w3⟩
            have hzx : z ≠ A := by
              subst hz
              obtain ⟨x1, r⟩ := k
              cases r with
              | none => have := hM.named x1 z zs h1; subst this; exact hkA
              | some r => obtain ⟨_, _, _, _, h5⟩ := lk_row h1; cases h5
            simp only [dropR, beq_ne hzx, cond_false]
  have hext : Ext big M0 M' := by
    refine ⟨hkeep0, fun k o0 hk h0 => ?_⟩
    have hkA : k.1 ≠ A := by intro e; rw [e, hbA] at hk; cases hk
    obtain ⟨o1, r1, r2, r3, r4, r5⟩ := he.ids k o0 hk h0
    refine ⟨_, lkO' k o1 hkA r1, (liftO_sz _ _).trans r2, by rw [liftO_len]; exact r3, (hμo k (fun e => hkA (congrArg Prod.fst e))).trans r4, fun b p c e0 hm hc => ?_⟩
    obtain ⟨c1, s1, s2⟩ := r5 b p c e0 hm hc
    obtain ⟨c2, s3, s4⟩ := hblk b c1 e0 s1
    exact ⟨c2, s3, s4.trans s2⟩
  refine ⟨M', ?_, hext, ⟨rfl, hok, hr.defers, hr.size, fun d v hd => ?_⟩, fun z j xs2 y2 v2 b2 hjl hj hb2 hG2 => ?_⟩
  · have hF := hT _ _ hti
    have hcl : uy.cells.toList = [uy] := by
      have : uy.cells = #[uy] := by
        cases uy <;> first | rfl | (cases huc; done)
      rw [this]
    have hst := run_storeCells_at P bA (pA + (i * 1 + 0)) e [uy] 0 cur M.w hcur (by simp; omega) (by intro u hu2; rw [List.mem_singleton] at hu2; subst hu2; exact huc)
    have hne : ¬ (uy.cells.size ≠ ti.sz) := by
      have : uy.cells.size = 1 := by rw [← Array.length_toList, hcl]; rfl
      omega
    simp only [Nat.add_zero] at hst hux'
    have hgoal : (execOp a.eval o).run P M.w = .ok .skip (M.w.setRow bA (cur.toList.take (pA + i * 1) ++ [uy] ++ cur.toList.drop (pA + i * 1 + [uy].length)).toArray) := by
      simp only [execOp, ho, hux', huy, Instr.storeAt, Instr.sureAddr, storeVar, Sem.run_bind, Sem.run_pure, Result.andThen_ok, sizeOf_run hF, Sem.run_ite, if_neg hne, hcl, hst]
    exact hgoal
  · have hd' : look d (mapV (liftA (dropR A)) s.tm) = some v := hd
    rw [look_mapV, Option.map_eq_some_iff] at hd'
    obtain ⟨v0, h0, rfl⟩ := hd'
    obtain ⟨u, hu, hv⟩ := hr.tm d v0 h0
    exact ⟨u, hu, AVR_lift hturn hv⟩
  · have hb2A : b2 ≠ bA := by
      obtain ⟨p2, cap2, _, _, _, _, h6⟩ := hG2
      rintro rfl
      rcases h6 with h | ⟨h, _, _⟩
      · exact absurd (hM.inj (A, some j) (A, none) _ _ b2 p2 pA (lk_of_row hA hjl) hA h hμA) (by simp)
      · exact h ⟨(A, none), _, pA, hA, hμA⟩
    refine hG2.frame (hbo b2 hb2A) (hμo _ (fun e => hj (Option.some.inj (congrArg Prod.snd e)))) (fun hl hf => ⟨fun h => (hlive b2 h).elim hl hb2, hf⟩)
end
end Go.Ab
