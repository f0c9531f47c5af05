/- Of slices: Sort at []int, as a contract of the abstract machine, out of the library's own one. -/
import Derived.Test.YtakfbagokponeaaAbC
import Derived.Test.YtakfbagokponeaaPlA
import Derived.Shelf.Sort.Plain
import Derived.Shelf.Slices.In.SortNone
namespace Go.Ab
open Go.Sort Go.Proofs Go.Shelf
theorem toArray_get (zs : List Int) (j : Nat) : zs.toArray[j]! = zs.getD j 0 := by
  by_cases h : j < zs.length
  · rw [getElem!_pos _ j (by simpa using h), List.getElem_toArray, List.getD_eq_getElem?_getD, List.getElem?_eq_getElem h]; rfl
  · rw [getElem!_neg _ j (by simpa using h), List.getD_eq_getElem?_getD, List.getElem?_eq_none (by omega)]; rfl
theorem lk_one {x : Nat} {o o' : Obj} {k : Key} (hn : ∀ i xss, o ≠ .mat i xss) (h : lk [(x, o)] k = some o') : k = (x, none) ∧ o' = o := by
  obtain ⟨y, r⟩ := k
  cases r with
  | none =>
    simp only [lk, look] at h
    cases hb : Nat.beq x y
    · rw [hb] at h; cases h
    · rw [hb] at h; cases h
      exact ⟨by rw [Nat.eq_of_beq_eq_true hb], rfl⟩
  | some i =>
    simp only [lk, look] at h
    cases hb : Nat.beq x y
    · rw [hb] at h; cases h
    · rw [hb] at h
      simp only [cond_true] at h
      cases o with
      | mat i xss => exact absurd rfl (hn i xss)
      | flat c => cases h
      | recs c => cases h
      | box n sz vs => cases h
theorem sort_ints {P : Program} {ρ : Ren} (L : Lays.n189 P ρ) (hfn : ∃ fn, P.funcs[ρ.f 189]? = some fn ∧ (fn.name == "runtime.NumGoroutine") = false ∧ fn.body.isNone = false)
    (id : Nat) (zs : List Int) (hlen : zs.length < 4611686018427387904) :
    ACall P (ρ.f 189) [.one (.rw id 0 zs.length)] [(id, .flat (.ints .i64 zs))] (fun ov oh => ov = .tup [] ∧ oh = [(id, .flat (.ints .i64 (sorted zs)))]) := by
  refine ⟨hfn, fun M us hH hM ha => ?_⟩
  obtain ⟨hl, hv⟩ := ha
  obtain ⟨u, hu, hr⟩ := hv 0 _ rfl
  obtain rfl : us = [u] := by
    match us, hl, hu with
    | [x], _, hu => cases hu; rfl
  have hlk : lk M.H (id, none) = some (.flat (.ints .i64 zs)) := by rw [hH]; simp [lk, look]
  obtain ⟨o, ho, _, hc⟩ := hr
  rw [hlk] at ho
  cases ho
  rcases hc with ⟨h0, A, rfl⟩ | ⟨b, p, a, cap, hμ, rfl, hcap, hmax, ha, _⟩
  · have hz : zs = [] := List.eq_nil_of_length_eq_zero h0
    refine (Any.slices_Sort_int_none L A 0 M.w).mono fun e w' hq => ?_
    obtain ⟨rfl, rfl⟩ := hq
    subst hz
    exact ⟨.tup [], .tuple #[], M, rfl, ⟨rfl, by rw [hH]; simp [sorted]⟩, ⟨[], rfl, rfl, fun i e h => by simp at h⟩, hM, rfl, Ext.refl _ _⟩
  · obtain ⟨cur, e, hb, hsz, hcells⟩ := hM.obj _ _ _ _ hlk hμ
    have hsz' : p + zs.length ≤ cur.size := by simpa [Obj.len, Obj.sz, C0.len, C0.sz] using hsz
    have hblk : b < M.w.heap.size := by
      rcases Nat.lt_or_ge b M.w.heap.size with h | h
      · exact h
      · rw [Array.getElem?_eq_none h] at hb; cases hb
    obtain rfl : a = p := by rw [ha]; omega
    have hcell : ∀ j, j < zs.length → cur[a + j]? = some (.int .i64 (zs.getD j 0)) := by
      intro j hj
      obtain ⟨u, h1, _, h2⟩ := hcells j hj 0 (by simp [Obj.sz, C0.sz])
      have h3 : u = .int .i64 (zs.getD j 0) := h2
      rw [show a + (j * (Obj.flat (.ints .i64 zs)).sz + 0) = a + j from by simp [Obj.sz, C0.sz]] at h1
      rw [h1, h3]
    have hH' : Holds (Value.int .i64) M.w b a zs.toArray := by
      intro j hj
      have hj' : j < zs.length := by simpa using hj
      have h1 := hcell j hj'
      refine ⟨?_, ?_⟩
      · rw [toArray_get]
        simp only [World.cell?, hb]
        simpa using h1
      · simp [World.frozen?, hb]
    refine (Any.slices_Sort_int L b a cap zs M.w hH' hblk hlen).mono fun e' w' hq => ?_
    obtain ⟨rfl, n, os, rfl⟩ := hq
    have hss : (zs.mergeSort fun x y => decide (x ≤ y)) = sorted zs := rfl
    rw [hss]
    have hsl := sorted_len zs
    generalize sorted zs = ss at hsl ⊢
    generalize hW : grow (putRow (Value.int .i64) (Sort.ahead M.w n) b a ss.toArray) os = W'
    have hsize : M.w.heap.size ≤ W'.heap.size := by rw [← hW, size_grow, size_putRow, heap_ahead]; omega
    have hold : ∀ k, k < M.w.heap.size → W'.heap[k]? = (M.w.heap.modify b (onCells (putCells (Value.int .i64) a ss.toArray)))[k]? := by
      intro k hk
      rw [← hW, heap_grow_old _ _ (by rw [size_putRow, heap_ahead]; exact hk)]; rfl
    have hother : ∀ k, k < M.w.heap.size → k ≠ b → W'.heap[k]? = M.w.heap[k]? := by
      intro k hk hne
      rw [hold k hk, Array.getElem?_modify, if_neg (Ne.symm hne)]
    have hb' : W'.heap[b]? = some (.cells (putCells (Value.int .i64) a ss.toArray cur) e (0, 0)) := by
      rw [hold b hblk, Array.getElem?_modify, if_pos rfl, hb]; rfl
    have hps : (putCells (Value.int .i64) a ss.toArray cur).size = cur.size := by simp [putCells]
    have hpc : ∀ i, i < ss.length → (putCells (Value.int .i64) a ss.toArray cur)[a + i]? = some (.int .i64 (ss.getD i 0)) := by
      intro i hi
      have hlt : a + i < cur.size := by omega
      simp only [putCells, Array.getElem?_mapIdx, Array.getElem?_eq_getElem hlt, Option.map_some]
      rw [if_pos ⟨by omega, by simp; omega⟩, show a + i - a = i by omega, toArray_get]
    have hlk' : lk [(id, Obj.flat (.ints .i64 ss))] (id, none) = some (.flat (.ints .i64 ss)) := by simp [lk, look]
    have hone : ∀ {k o}, lk [(id, Obj.flat (.ints .i64 ss))] k = some o → k = (id, none) ∧ o = .flat (.ints .i64 ss) := fun h => lk_one (fun i xss q => by cases q) h
    have hone0 : ∀ {k o}, lk M.H k = some o → k = (id, none) ∧ o = .flat (.ints .i64 zs) := fun h => lk_one (fun i xss q => by cases q) (by rw [hH] at h; exact h)
    have hlive : ∀ c, (Mem.mk M.μ [(id, Obj.flat (.ints .i64 ss))] W' M.free).live c ↔ M.live c := by
      intro c
      constructor
      · rintro ⟨x, o, q, h1, h2⟩
        obtain ⟨rfl, rfl⟩ := hone h1
        exact ⟨_, _, q, hlk, h2⟩
      · rintro ⟨x, o, q, h1, h2⟩
        obtain ⟨rfl, rfl⟩ := hone0 h1
        exact ⟨_, _, q, hlk', h2⟩
    refine ⟨.tup [], .tuple #[], ⟨M.μ, [(id, .flat (.ints .i64 ss))], W', M.free⟩, rfl, ⟨rfl, rfl⟩, ⟨[], rfl, rfl, fun i e h => by simp at h⟩, ?_, rfl, ?_⟩
    · refine ⟨fun x i xss h => ?_, fun c hc => ⟨Nat.lt_of_lt_of_le (hM.fr c hc).1 hsize, fun hl => (hM.fr c hc).2 ((hlive c).1 hl)⟩, fun x y o o' c q1 q2 h1 h2 _ _ => ?_, fun x o h1 h2 => ?_, fun x o c q h1 h2 => ?_⟩
      · have := hone (k := (x, none)) (o := .mat i xss) h
        cases this.2
      · rw [(hone h1).1, (hone h2).1]
      · obtain ⟨rfl, rfl⟩ := hone h1
        rw [hμ] at h2; cases h2
      · obtain ⟨rfl, rfl⟩ := hone h1
        rw [hμ] at h2
        cases h2
        refine ⟨_, e, hb', ?_, fun i hi j hj => ?_⟩
        · rw [hps]; simp only [Obj.len, Obj.sz, C0.len, C0.sz]; omega
        · have hj0 : j = 0 := by simp only [Obj.sz, C0.sz] at hj; omega
          subst hj0
          have hi' : i < ss.length := hi
          exact ⟨_, by rw [show a + (i * (Obj.flat (.ints .i64 ss)).sz + 0) = a + i from by simp [Obj.sz, C0.sz]]; exact hpc i hi', rfl, rfl⟩
    · have hWos : W'.os = M.w.os := by rw [← hW]; rfl
      have hWt : W'.tape = M.w.tape := by rw [← hW]; rfl
      have hWo : W'.output = M.w.output := by rw [← hW]; rfl
      have hWd : M.w.drawn ≤ W'.drawn := by rw [← hW]; first | exact Nat.le_refl _ | exact Nat.le_add_right _ _ | exact Nat.le_add_left _ _
      refine ⟨⟨hWos, hWt, hWo, hWd, hsize, fun c hc hl => ⟨hother c hc (fun q => hl (by rw [q]; exact ⟨_, _, _, hlk, hμ⟩)), fun h => hl ((hlive c).1 h)⟩, fun c hc => hc, fun c hc => .inl hc⟩, fun x o _ h1 => ?_⟩
      obtain ⟨rfl, rfl⟩ := hone0 h1
      refine ⟨_, hlk', rfl, by simp only [Obj.len, C0.len]; omega, rfl, fun c q cur' e' h2 h3 => ?_⟩
      rw [hμ] at h2
      cases h2
      rw [hb] at h3
      cases h3
      exact ⟨_, hb', hps⟩
end Go.Ab
