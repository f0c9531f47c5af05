/- The abstract machine, part 16: what a caller outside hands in, and what it finds behind the call. -/
import Derived.Test.YtdglhalkilneaaaAb15
import Derived.ChangeSlices
import Derived.Deep.Matrix
import Derived.Deep.Fields
import Derived.ChangeSame
import Derived.Carry
namespace Go.Ab
open Go.RowKit Go.WideShapes Go.ChangeShapes Go.Deep

/-- The memory as the call finds it: it may read all of it. -/
def argM (W : World) : Mem := ⟨fun _ => none, [], W, fun b => b < W.heap.size⟩
theorem argM_live (W : World) (b : Nat) : ¬ (argM W).live b := by
  rintro ⟨x, o, p, h, _⟩
  cases h
theorem argM_ok (W : World) : MOk (argM W) := ⟨fun b hb => ⟨hb, argM_live W b⟩, fun _ _ _ _ _ _ _ h => (by cases h), fun _ _ h => (by cases h), fun _ _ _ _ h => (by cases h)⟩
theorem argM_below {W : World} {M' : Mem} (h : Ext big (argM W) M') : Below W.heap.size W M'.w :=
  ⟨h.os, h.tape, h.output, h.size, fun k hk => (h.still k hk (argM_live W k)).1⟩

theorem argM_row {W : World} {len sz : Nat} {C : Nat → Nat → Value → Prop} {a : Addr} {cap : Nat} (hsz : 0 < sz) (h1 : len ≤ cap) (h2 : cap ≤ maxLen) (h : ∀ i, i < len → ∀ j, j < sz → ∃ u, W.cell? (a.add (i * sz + j)) = some u ∧ C i j u) :
    (argM W).roSl len sz C (.slice (some a) len cap) := by
  refine ⟨_, cap, rfl, h1, h2, ?_⟩
  rcases Nat.eq_zero_or_pos len with h0 | h0
  · exact .inl h0
  · obtain ⟨u, hu, _⟩ := h 0 h0 0 hsz
    have hs : a.spot = none := by
      have e : a.add (0 * sz + 0) = a := by simp [Addr.add]
      rw [e] at hu
      unfold World.cell? at hu
      split at hu
      · split at hu
        · cases hu
        · rename_i hn
          cases hsp : a.spot with
          | none => rfl
          | some x => rw [hsp] at hn; simp at hn
      · cases hu
    obtain ⟨b, off, spot⟩ := a
    simp only at hs
    subst hs
    refine .inr ⟨b, off, rfl, ⟨?_, argM_live W b⟩, fun i hi j hj => ?_⟩
    · have := World.block_lt_of_cell? _ _ hu
      rwa [show ((⟨b, off, none⟩ : Addr).add (0 * sz + 0)).block = b from by simp [Addr.add]] at this
    · obtain ⟨u, hu, hc⟩ := h i hi j hj
      rw [Addr.add_lit] at hu
      exact ⟨u, hu, hc⟩

theorem argM_nil {W : World} {sz : Nat} {C : Nat → Nat → Value → Prop} : (argM W).roSl 0 sz C (.slice none 0 0) := ⟨none, 0, rfl, Nat.le_refl _, Nat.zero_le _, .inl rfl⟩

section
variable {H : Type} {enc : TypeId × Value → H} {P : Program} {W : World} {base : Nat} {held : Bool}

theorem lit_inR {k : IntKind} {n : Int} (h : (Lit.int k n).wf = true) : inR k n := by
  cases k <;> simpa [Lit.wf, IntKind.min, IntKind.max, IntKind.signed, IntKind.bits, inR] using h

theorem rd_int {t : TypeId} {k : IntKind} {fuel : Nat} {v : Value} {x : DataW H × List MemPlace} {sp : Nat → Bool} (ht : P.underlying t = some (.int k)) (h : DataW.trod enc P W base sp held fuel t [v] = some x) : ∃ n, v = .int k n ∧ inR k n := by
  obtain ⟨n, h1, _, h3⟩ := DataW.trod_int ht h
  simp only [List.cons.injEq, and_true] at h1
  exact ⟨n, h1, lit_inR h3⟩
theorem rd_bool {t : TypeId} {fuel : Nat} {v : Value} {x : DataW H × List MemPlace} {sp : Nat → Bool} (ht : P.underlying t = some .bool) (h : DataW.trod enc P W base sp held fuel t [v] = some x) : ∃ b, v = .bool b := by
  obtain ⟨b, h1, _⟩ := DataW.trod_bool ht h
  simp only [List.cons.injEq, and_true] at h1
  exact ⟨b, h1⟩

theorem rd_ints {t e : TypeId} {k : IntKind} {fuel : Nat} {v : Value} {x : DataW H × List MemPlace} (ht : P.underlying t = some (.slice e)) (he : P.underlying e = some (.int k)) (hc : P.cellsOf e = 1)
    (h : DataW.trod enc P W base (fun _ => true) held fuel t [v] = some x) : ∃ xs : List Int, VM (argM W) (.ro (.ints k xs)) v ∧ xs.length ≤ maxLen ∧ ∀ n ∈ xs, inR k n := by
  rcases open_ints ht he hc h with ⟨h1, _⟩ | ⟨a, len, cap, zs, h1, _, h2, h3, h4, _, h5, h6⟩
  · simp only [List.cons.injEq, and_true] at h1
    subst h1
    exact ⟨[], argM_nil, Nat.zero_le _, fun n hn => by cases hn⟩
  · simp only [List.cons.injEq, and_true] at h1
    subst h1
    simp only [if_true] at h4
    have hl : (zs.take len).length = len := by rw [List.length_take]; omega
    refine ⟨zs.take len, ?_, by omega, fun n hn => lit_inR (h6 n (List.mem_of_mem_take hn))⟩
    show (argM W).roSl (zs.take len).length 1 _ _
    rw [hl]
    refine argM_row (by omega) h2 h3 fun i hi j hj => ?_
    have hj0 : j = 0 := by omega
    subst hj0
    refine ⟨_, by rw [Nat.mul_one, Nat.add_zero]; exact h5 i (by omega), ?_⟩
    show Value.int k (zs.getD i 0) = .int k ((zs.take len).getD i 0)
    simp only [List.getD_eq_getElem?_getD, List.getElem?_take, if_pos hi]

/-- The integer in a cell. -/
def cellInt (W : World) (a : Addr) (i : Nat) : Int := match W.cell? (a.add i) with | some (.int _ n) => n | _ => 0
theorem cellInt_eq {a : Addr} {i : Nat} {k : IntKind} {n : Int} (h : W.cell? (a.add i) = some (.int k n)) : cellInt W a i = n := by simp [cellInt, h]
def cellBool (W : World) (a : Addr) (i : Nat) : Bool := match W.cell? (a.add i) with | some (.bool n) => n | _ => false
theorem cellBool_eq {a : Addr} {i : Nat} {n : Bool} (h : W.cell? (a.add i) = some (.bool n)) : cellBool W a i = n := by simp [cellBool, h]

/-- A slice of structs of one-cell fields: its cells. -/
theorem rd_fields {t e : TypeId} {fs : Array Field} {fuel : Nat} {v : Value} {x : DataW H × List MemPlace} (ht : P.underlying t = some (.slice e)) (he : P.underlying e = some (.struct fs)) (hone : oneCellFields P fs = true) (hC : P.cellsOf e = fs.size)
    (h : DataW.trod enc P W base (fun _ => true) held fuel t [v] = some x) : v = .slice none 0 0 ∨ ∃ (a : Addr) (len cap : Nat), v = .slice (some a) len cap ∧ len ≤ cap ∧ cap ≤ maxLen ∧
      ∀ i, i < len → ∀ (j : Nat) (f : Field), fs[j]? = some f → ∃ (u : Value) (y : DataW H × List MemPlace) (n : Nat), W.cell? (a.add (i * fs.size + j)) = some u ∧ DataW.trod enc P W base (fun _ => true) held n f.type [u] = some y := by
  rcases open_slice ht h with ⟨h1, _⟩ | ⟨a, len, cap, m, n, D, Pl, h1, _, h2, h3, h4, _, h5⟩
  · simp only [List.cons.injEq, and_true] at h1
    exact .inl h1
  · simp only [List.cons.injEq, and_true] at h1
    simp only [if_true] at h4
    refine .inr ⟨a, len, cap, h1, h2, h3, fun i hi j f hj => ?_⟩
    obtain ⟨cs', hc, ht'⟩ := h5 i (by omega)
    rw [hC] at hc
    obtain ⟨ys, n', hn', hy, hlen, hyl, hf⟩ := DataW.trod_struct he ht'
    obtain ⟨_, hcl, hat⟩ := World.cells?_some hc
    obtain ⟨ho, hk⟩ := hone_of hone j f hj
    have hjl : j < fs.size := (Array.getElem?_eq_some_iff.1 hj).1
    have hcell := hat j hjl
    have hv : cs'[j]? = some (cs'[j]'(by omega)) := List.getElem?_eq_getElem (by omega)
    have h1 := hf j f hj
    rw [ho, hk] at h1
    have hone' : (cs'.drop j).take 1 = [cs'[j]'(by omega)] := by
      rw [List.drop_eq_getElem_cons (by omega)]
      rfl
    rw [hone'] at h1
    have hys : ys[j]? = some (ys[j]'(by omega)) := List.getElem?_eq_getElem (by omega)
    exact ⟨_, _, n', by rw [← Go.Deep.add_add, hcell, hv], h1.trans hys⟩

theorem rd_arcs {t e : TypeId} {f0 f1 f2 : Field} {fuel : Nat} {v : Value} {x : DataW H × List MemPlace} (ht : P.underlying t = some (.slice e)) (he : P.underlying e = some (.struct #[f0, f1, f2])) (hone : oneCellFields P #[f0, f1, f2] = true) (hC : P.cellsOf e = 3)
    (h0 : P.underlying f0.type = some (.int .i64)) (h1 : P.underlying f1.type = some (.int .i64)) (h2 : P.underlying f2.type = some (.int .i64))
    (h : DataW.trod enc P W base (fun _ => true) held fuel t [v] = some x) : ∃ xs : List Arc, VM (argM W) (.ro (.arcs xs)) v ∧ xs.length ≤ maxLen ∧ ∀ a ∈ xs, inR .i64 a.src ∧ inR .i64 a.dst ∧ inR .i64 a.cap := by
  rcases rd_fields ht he hone hC h with rfl | ⟨a, len, cap, rfl, k1, k2, k3⟩
  · exact ⟨[], argM_nil, Nat.zero_le _, fun n hn => by cases hn⟩
  · have key : ∀ i, i < len → ∃ n0 n1 n2 : Int, (W.cell? (a.add (i * 3 + 0)) = some (.int .i64 n0) ∧ inR .i64 n0) ∧ (W.cell? (a.add (i * 3 + 1)) = some (.int .i64 n1) ∧ inR .i64 n1) ∧ (W.cell? (a.add (i * 3 + 2)) = some (.int .i64 n2) ∧ inR .i64 n2) := by
      intro i hi
      obtain ⟨u0, y0, m0, c0, t0⟩ := k3 i hi 0 f0 rfl
      obtain ⟨u1, y1, m1, c1, t1⟩ := k3 i hi 1 f1 rfl
      obtain ⟨u2, y2, m2, c2, t2⟩ := k3 i hi 2 f2 rfl
      obtain ⟨n0, rfl, r0⟩ := rd_int h0 t0
      obtain ⟨n1, rfl, r1⟩ := rd_int h1 t1
      obtain ⟨n2, rfl, r2⟩ := rd_int h2 t2
      exact ⟨n0, n1, n2, ⟨c0, r0⟩, ⟨c1, r1⟩, ⟨c2, r2⟩⟩
    refine ⟨(List.range len).map fun i => ⟨cellInt W a (i * 3 + 0), cellInt W a (i * 3 + 1), cellInt W a (i * 3 + 2)⟩, ?_, by simp; omega, fun b hb => ?_⟩
    · show (argM W).roSl (List.length _) 3 _ _
      rw [List.length_map, List.length_range]
      refine argM_row (by omega) k1 k2 fun i hi j hj => ?_
      obtain ⟨n0, n1, n2, ⟨c0, r0⟩, ⟨c1, r1⟩, ⟨c2, r2⟩⟩ := key i hi
      have hat : ((List.range len).map fun i => (⟨cellInt W a (i * 3 + 0), cellInt W a (i * 3 + 1), cellInt W a (i * 3 + 2)⟩ : Arc)).getD i default = ⟨n0, n1, n2⟩ := by
        simp only [List.getD_eq_getElem?_getD, List.getElem?_map, List.getElem?_range hi, Option.map_some, Option.getD_some, cellInt_eq c0, cellInt_eq c1, cellInt_eq c2]
      simp only [C0.cell, hat, arcCell]
      match j, hj with
      | 0, _ => exact ⟨_, c0, rfl⟩
      | 1, _ => exact ⟨_, c1, rfl⟩
      | 2, _ => exact ⟨_, c2, rfl⟩
    · simp only [List.mem_map, List.mem_range] at hb
      obtain ⟨i, hi, rfl⟩ := hb
      obtain ⟨n0, n1, n2, ⟨c0, r0⟩, ⟨c1, r1⟩, ⟨c2, r2⟩⟩ := key i hi
      rw [cellInt_eq c0, cellInt_eq c1, cellInt_eq c2]
      exact ⟨r0, r1, r2⟩

theorem rd_nds {t e : TypeId} {f0 f1 f2 f3 : Field} {fuel : Nat} {v : Value} {x : DataW H × List MemPlace} (ht : P.underlying t = some (.slice e)) (he : P.underlying e = some (.struct #[f0, f1, f2, f3])) (hone : oneCellFields P #[f0, f1, f2, f3] = true) (hC : P.cellsOf e = 4)
    (h0 : P.underlying f0.type = some (.int .i64)) (h1 : P.underlying f1.type = some (.int .i64)) (h2 : P.underlying f2.type = some (.int .i64)) (h3 : P.underlying f3.type = some (.int .i64))
    (h : DataW.trod enc P W base (fun _ => true) held fuel t [v] = some x) : ∃ xs : List Nd, VM (argM W) (.ro (.nds xs)) v ∧ xs.length ≤ maxLen ∧ ∀ a ∈ xs, inR .i64 a.src ∧ inR .i64 a.dst ∧ inR .i64 a.low ∧ inR .i64 a.cap := by
  rcases rd_fields ht he hone hC h with rfl | ⟨a, len, cap, rfl, k1, k2, k3⟩
  · exact ⟨[], argM_nil, Nat.zero_le _, fun n hn => by cases hn⟩
  · have key : ∀ i, i < len → ∃ n0 n1 n2 n3 : Int, (W.cell? (a.add (i * 4 + 0)) = some (.int .i64 n0) ∧ inR .i64 n0) ∧ (W.cell? (a.add (i * 4 + 1)) = some (.int .i64 n1) ∧ inR .i64 n1) ∧ (W.cell? (a.add (i * 4 + 2)) = some (.int .i64 n2) ∧ inR .i64 n2) ∧ (W.cell? (a.add (i * 4 + 3)) = some (.int .i64 n3) ∧ inR .i64 n3) := by
      intro i hi
      obtain ⟨u0, y0, m0, c0, t0⟩ := k3 i hi 0 f0 rfl
      obtain ⟨u1, y1, m1, c1, t1⟩ := k3 i hi 1 f1 rfl
      obtain ⟨u2, y2, m2, c2, t2⟩ := k3 i hi 2 f2 rfl
      obtain ⟨u3, y3, m3, c3, t3⟩ := k3 i hi 3 f3 rfl
      obtain ⟨n0, rfl, r0⟩ := rd_int h0 t0
      obtain ⟨n1, rfl, r1⟩ := rd_int h1 t1
      obtain ⟨n2, rfl, r2⟩ := rd_int h2 t2
      obtain ⟨n3, rfl, r3⟩ := rd_int h3 t3
      exact ⟨n0, n1, n2, n3, ⟨c0, r0⟩, ⟨c1, r1⟩, ⟨c2, r2⟩, ⟨c3, r3⟩⟩
    refine ⟨(List.range len).map fun i => ⟨cellInt W a (i * 4 + 0), cellInt W a (i * 4 + 1), cellInt W a (i * 4 + 2), cellInt W a (i * 4 + 3)⟩, ?_, by simp; omega, fun b hb => ?_⟩
    · show (argM W).roSl (List.length _) 4 _ _
      rw [List.length_map, List.length_range]
      refine argM_row (by omega) k1 k2 fun i hi j hj => ?_
      obtain ⟨n0, n1, n2, n3, ⟨c0, r0⟩, ⟨c1, r1⟩, ⟨c2, r2⟩, ⟨c3, r3⟩⟩ := key i hi
      have hat : ((List.range len).map fun i => (⟨cellInt W a (i * 4 + 0), cellInt W a (i * 4 + 1), cellInt W a (i * 4 + 2), cellInt W a (i * 4 + 3)⟩ : Nd)).getD i default = ⟨n0, n1, n2, n3⟩ := by
        simp only [List.getD_eq_getElem?_getD, List.getElem?_map, List.getElem?_range hi, Option.map_some, Option.getD_some, cellInt_eq c0, cellInt_eq c1, cellInt_eq c2, cellInt_eq c3]
      simp only [C0.cell, hat, ndCell]
      match j, hj with
      | 0, _ => exact ⟨_, c0, rfl⟩
      | 1, _ => exact ⟨_, c1, rfl⟩
      | 2, _ => exact ⟨_, c2, rfl⟩
      | 3, _ => exact ⟨_, c3, rfl⟩
    · simp only [List.mem_map, List.mem_range] at hb
      obtain ⟨i, hi, rfl⟩ := hb
      obtain ⟨n0, n1, n2, n3, ⟨c0, r0⟩, ⟨c1, r1⟩, ⟨c2, r2⟩, ⟨c3, r3⟩⟩ := key i hi
      rw [cellInt_eq c0, cellInt_eq c1, cellInt_eq c2, cellInt_eq c3]
      exact ⟨r0, r1, r2, r3⟩

theorem rd_rows {t e q : TypeId} {k : IntKind} {fuel : Nat} {v : Value} {x : DataW H × List MemPlace} (hk : k = .i64) (ht : P.underlying t = some (.slice e)) (he : P.underlying e = some (.slice q)) (hq : P.underlying q = some (.int k)) (ce : P.cellsOf e = 1) (cq : P.cellsOf q = 1)
    (h : DataW.trod enc P W base (fun _ => true) held fuel t [v] = some x) : ∃ xs : List (List Int), VM (argM W) (.rs (.rows xs)) v ∧ xs.length ≤ maxLen ∧ ∀ r ∈ xs, r.length ≤ maxLen ∧ ∀ n ∈ r, inR k n := by
  subst hk
  rcases open_int_rows ht he hq ce cq h with ⟨h1, _⟩ | ⟨a, len, cap, A, L, C, Z, h1, _, h2, h3, _, h5⟩
  · simp only [List.cons.injEq, and_true] at h1
    subst h1
    exact ⟨[], argM_nil, Nat.zero_le _, fun n hn => by cases hn⟩
  · simp only [List.cons.injEq, and_true] at h1
    subst h1
    refine ⟨(List.range len).map fun r => (Z r).take (L r), ?_, by simp; omega, fun r hr => ?_⟩
    · show (argM W).roSl (List.length _) 1 _ _
      rw [List.length_map, List.length_range]
      refine argM_row (by omega) h2 h3 fun i hi j hj => ?_
      obtain ⟨g1, g2, g3, g4, g5, g6, g7⟩ := h5 i (by omega)
      have hj0 : j = 0 := by omega
      subst hj0
      refine ⟨_, by rw [Nat.mul_one, Nat.add_zero]; exact g1, ?_⟩
      have hat : ((List.range len).map fun r => (Z r).take (L r)).getD i [] = (Z i).take (L i) := by
        simp only [List.getD_eq_getElem?_getD, List.getElem?_map, List.getElem?_range hi, Option.map_some, Option.getD_some]
      simp only [C1.cell, hat]
      show (argM W).roSl ((Z i).take (L i)).length 1 _ _
      have hl : ((Z i).take (L i)).length = L i := by rw [List.length_take]; omega
      rw [hl]
      cases hA : A i with
      | none =>
        have : C i = 0 := g6 hA
        have hL : L i = 0 := by omega
        rw [this, hL]
        exact argM_nil
      | some a' =>
        obtain ⟨_, g8⟩ := g7 a' hA
        refine argM_row (by omega) g2 g3 fun c hc j hj => ?_
        have hj0 : j = 0 := by omega
        subst hj0
        refine ⟨_, by rw [Nat.mul_one, Nat.add_zero]; exact g8 c (by omega), ?_⟩
        show Value.int _ ((Z i).getD c 0) = .int _ (((Z i).take (L i)).getD c 0)
        simp only [List.getD_eq_getElem?_getD, List.getElem?_take, if_pos hc]
    · simp only [List.mem_map, List.mem_range] at hr
      obtain ⟨i, hi, rfl⟩ := hr
      obtain ⟨g1, g2, g3, g4, g5, g6, g7⟩ := h5 i (by omega)
      exact ⟨by rw [List.length_take]; omega, fun n hn => lit_inR (g5 n (List.mem_of_mem_take hn))⟩

theorem args_stay {ts : List TypeId} {vs : List Value} {ds : List (DataW H)} {ps : List MemPlace} {W' : World} {sp : Nat → Bool} (hl : laidOutB P = true) (hb : Below W.heap.size W W') (ht : ts.all (fun t => P.readableRec t && decide (t < P.types.size)) = true)
    (h : DataW.TrodAll enc P W 0 (fun _ => true) true ts vs ds ps) (hlt : ∀ x ∈ ps, x.block < W.heap.size) (hsp : ∀ x ∈ ps, sp x.block = true) : DataW.TrodAll enc P W' 0 sp true ts vs ds ps := by
  induction ts generalizing vs ds ps with
  | nil =>
    cases vs <;> cases ds <;> first | exact h | exact h.elim
  | cons t ts ih =>
    cases vs <;> cases ds <;> first | exact h.elim | skip
    simp only [List.all_cons, Bool.and_eq_true, decide_eq_true_eq] at ht
    obtain ⟨p, q, h1, h2, rfl⟩ := h
    exact ⟨p, q, WideElems.Trod_stays hl ht.1.1 ht.1.2 h1 (fun x hx => hb.same (hlt x (List.mem_append_left _ hx))) (fun x hx => hsp x (List.mem_append_left _ hx)),
      ih ht.2 h2 (fun x hx => hlt x (List.mem_append_right _ hx)) (fun x hx => hsp x (List.mem_append_right _ hx)), rfl⟩

/-- The row's last step: the call handed back one boolean and turned nothing that was there. -/
theorem post_kept {f : Func} {s : ChangeSpec} {W W' : World} {args : Array Value} {v : Value} {ds gs : List (DataW H)} {before pa pv : List MemPlace}
    (hW : DataW.Whole enc P f.params.toList s.vars false W args.toList ds gs before)
    (hres : ∀ (b : Nat) (sp : Nat → Bool) (hd : Bool), DataW.TrodAll enc P W' b sp hd f.resultTypes.toList (v.resultList f.resultTypes.size) (s.fn H (ds ++ gs)).results [])
    (hargs : ∀ sp : Nat → Bool, (∀ p ∈ before, sp p.block = true) → DataW.TrodAll enc P W' 0 sp true f.params.toList args.toList (s.fn H (ds ++ gs)).args pa)
    (hvars : ∀ sp : Nat → Bool, (∀ p ∈ before, sp p.block = true) → DataW.TrodVars enc P W' sp s.vars (s.fn H (ds ++ gs)).vars pv)
    (hps : before = pa ++ pv) (hb : Below W.heap.size W W')
    (_hok : ∀ (j : Nat) (t : TypeId) (r : Value), f.resultTypes[j]? = some t → (v.resultList f.resultTypes.size)[j]? = some r → Value.okWide P W' .any 0 t r) :
    s.post enc P f false true false false W args v W' := by
  have hlt : ∀ p ∈ before, p.block < W.heap.size := fun p hp => hW.lt p hp
  have hold : ∀ p ∈ before, (fun b => decide (b < W.heap.size)) p.block = true := fun p hp => by simpa using hlt p hp
  refine ⟨ds, gs, before, [], pa, pv, hW, hres _ _ _, hargs _ hold, hvars _ hold, World.keptBut_mono (fun p hp => ⟨hp, ?_⟩) (hb.frame (· ∈ before)), fun h => by cases h⟩
  rw [hps, List.mem_append] at hp
  exact Or.inr hp
end

theorem arr_of {α : Type} {cs : Array α} : (cs.size = 2 → ∃ a b, cs = #[a, b]) ∧ (cs.size = 4 → ∃ a b c d, cs = #[a, b, c, d]) ∧ (cs.size = 6 → ∃ a b c d e f, cs = #[a, b, c, d, e, f]) := by
  obtain ⟨l⟩ := cs
  refine ⟨fun h => ?_, fun h => ?_, fun h => ?_⟩
  · match l, h with | [a, b], _ => exact ⟨a, b, rfl⟩
  · match l, h with | [a, b, c, d], _ => exact ⟨a, b, c, d, rfl⟩
  · match l, h with | [a, b, c, d, e, f], _ => exact ⟨a, b, c, d, e, f, rfl⟩
theorem trod_field {H : Type} {enc : TypeId × Value → H} {P : Program} {W : World} {base : Nat} {held : Bool} {ft : TypeId} {fuel : Nat} {sp : Nat → Bool} {xs : List (DataW H × List MemPlace)} {i : Nat} {L L' : List Value}
    (h : DataW.trod enc P W base sp held fuel ft L = xs[i]?) (hi : i < xs.length) (hL : L = L') : ∃ y, DataW.trod enc P W base sp held fuel ft L' = some y :=
  ⟨xs[i], by rw [← hL, h, List.getElem?_eq_getElem hi]⟩
end Go.Ab
