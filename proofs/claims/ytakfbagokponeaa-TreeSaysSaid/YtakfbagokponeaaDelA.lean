/- Of slices: Delete of one element that has 3 cells, as a contract of the abstract machine: the library's own text is walked. -/
import Derived.Test.YtakfbagokponeaaTab
import Derived.Test.YtakfbagokponeaaDel0
import Derived.WalkKit
import Derived.Deep.LoopGhost
import Derived.Deep.RegionLaw
import Derived.Lib.SliceRun
import Derived.Laws.IdiomCopy
namespace Go.Ab
open Go Go.RowKit Go.Proofs
theorem infoA : (Try.prog.info? 57).map (fun i => (i.zero, i.size, i.bytes)) = some (some (.agg #[.int .i64 0, .int .i64 0, .int .i64 0]), 3, 24) := by kernel_rfl
theorem clear_oneA (w : World) (ty : TypeId) (b o c : Nat) (hv : ∀ w, (zeroValue 57).run Try.prog w = .ok (.agg #[.int .i64 0, .int .i64 0, .int .i64 0]) w)
    (hc : ∀ j, j < 3 → (w.cell? ⟨b, o + j, none⟩).isSome = true) (hf : ∀ j, j < 3 → w.frozen? ⟨b, o + j, none⟩ = false) :
    (Builtin.clear_ #[22] ty #[.slice (some ⟨b, o, none⟩) 1 c]).run Try.prog w = .ok (.tuple #[]) (w.setCells b o [.int .i64 0, .int .i64 0, .int .i64 0]) := by
  have hzc : (Builtin.zeroCells (.agg #[.int .i64 0, .int .i64 0, .int .i64 0] : Value).cells 1).toList = [.int .i64 0, .int .i64 0, .int .i64 0] := by kernel_rfl
  have hst := run_storeCells_cells (P := Try.prog) b o [.int .i64 0, .int .i64 0, .int .i64 0] 0 w (by simpa using hc) (by simpa using hf) (by intro v hv'; simp at hv'; first | (rcases hv' with rfl | rfl | rfl <;> rfl) | (subst hv'; rfl))
  simp only [Nat.add_zero] at hst
  simp [Builtin.clear_, run_underlying Try.underlying22, hv, hzc, hst]
set_option maxHeartbeats 4000000 in
set_option maxRecDepth 1000000 in
theorem del_cellsA (b off n cap i j : Nat) (V : List Value) (w : World) (hj : j = i + 1) (hi : j ≤ n) (hl : n ≤ cap) (hm : cap ≤ 9223372036854775807) (hV : V.length = n * 3) (h1 : ∀ u ∈ V, u.oneCell' = true)
    (hc : ∀ t, t < n * 3 → w.cell? ⟨b, off + t, none⟩ = V[t]?) (hf : ∀ t, t < n * 3 → w.frozen? ⟨b, off + t, none⟩ = false) :
    Calls Try.prog 90 #[.slice (some ⟨b, off, none⟩) n cap, .int .i64 i, .int .i64 j] w fun e w' => e = .returned (.slice (some ⟨b, off, none⟩) (i + (n - j)) cap) ∧ w' = (w.drew.setCells b (off + i * 3) (V.drop (j * 3))).setCells b (off + (i + (n - j)) * 3) [.int .i64 0, .int .i64 0, .int .i64 0] := by
  obtain ⟨i0, hi0, hz0, hz1, hz2⟩ := info_parts infoA
  obtain ⟨news, hnews⟩ : ∃ news, news = V.drop (j * 3) := ⟨_, rfl⟩
  have hlen : news.length = (n - j) * 3 := by rw [hnews, List.length_drop, hV]; omega
  have hget : ∀ t, news[t]? = V[j * 3 + t]? := fun t => by rw [hnews, List.getElem?_drop]
  obtain ⟨A, hA, hsrc⟩ : ∃ A : Addr, (if cap = j then some (⟨b, off, none⟩ : Addr) else some ⟨b, off + j * 3, none⟩) = some A ∧ Hid (∀ t u, news[t]? = some u → w.drew.cell? (A.add t) = some u) := by
    by_cases h : cap = j
    · refine ⟨⟨b, off, none⟩, by simp [h], fun t u hu => ?_⟩
      have h0 : news.length = 0 := by rw [hlen]; omega
      rw [List.length_eq_zero_iff.1 h0] at hu
      simp at hu
    · refine ⟨⟨b, off + j * 3, none⟩, by simp [h], fun t u hu => ?_⟩
      have ht : t < (n - j) * 3 := by
        have := (List.getElem?_eq_some_iff.1 hu).1
        rwa [hlen] at this
      rw [hget] at hu
      rw [Addr.add_lit, show off + j * 3 + t = off + (j * 3 + t) by omega]
      exact (hc (j * 3 + t) (by omega)).trans hu
  have s1 : Hid (news.length = (n - j) * 3) := hlen
  have s2 : Hid (∀ u ∈ news, u.oneCell' = true) := by
    intro u hu
    rw [hnews] at hu
    exact h1 u (List.mem_of_mem_drop hu)
  have s3 : Hid (∀ t, t < news.length → (w.drew.cell? ⟨b, off + i * 3 + t, none⟩).isSome = true ∧ w.drew.frozen? ⟨b, off + i * 3 + t, none⟩ = false) := by
    intro t ht
    rw [hlen] at ht
    rw [Nat.add_assoc]
    refine ⟨?_, hf (i * 3 + t) (by omega)⟩
    show (w.cell? _).isSome = true
    rw [hc (i * 3 + t) (by omega), List.getElem?_eq_getElem (by omega)]; rfl
  obtain ⟨W1, hW1⟩ : ∃ W1, W1 = w.drew.setCells b (off + i * 3) news := ⟨_, rfl⟩
  have hcell1 : ∀ t, t < n * 3 → (W1.cell? ⟨b, off + t, none⟩).isSome = true ∧ W1.frozen? ⟨b, off + t, none⟩ = false := by
    intro t ht
    refine ⟨?_, by rw [hW1, World.frozen?_setCells]; exact hf t ht⟩
    by_cases q : i * 3 ≤ t ∧ t < i * 3 + news.length
    · have h9 := World.cell?_setCells_in b news (off + i * 3) w.drew (fun k hk => (s3.out k hk).1) (t - i * 3) (by omega)
      rw [hW1, show off + t = off + i * 3 + (t - i * 3) by omega, h9]; rfl
    · rw [hW1, World.cell?_setCells_out b news (off + i * 3) w.drew ⟨b, off + t, none⟩ (fun _ _ => by show off + t < off + i * 3 ∨ off + i * 3 + news.length ≤ off + t; omega)]
      show (w.cell? _).isSome = true
      rw [hc t ht, List.getElem?_eq_getElem (by omega)]; rfl
  have hcl : ∀ ty, (Builtin.clear_ #[22] ty #[.slice (some ⟨b, off + (i + (n - j)) * 3, none⟩) (n - (i + (n - j))) (cap - (i + (n - j)))]).run Try.prog W1 = .ok (.tuple #[]) (W1.setCells b (off + (i + (n - j)) * 3) [.int .i64 0, .int .i64 0, .int .i64 0]) := by
    intro ty
    rw [show n - (i + (n - j)) = 1 by omega]
    exact clear_oneA W1 ty b _ _ (fun w => by rfl) (fun t ht => by rw [Nat.add_assoc]; exact (hcell1 _ (by omega)).1) (fun t ht => by rw [Nat.add_assoc]; exact (hcell1 _ (by omega)).2)
  have hW : Hid (W1 = w.drew.setCells b (off + i * 3) news) := hW1
  have hic : i ≤ cap := by omega
  have hjc : j ≤ cap := by omega
  have hij : ¬ ((i : Int) = (j : Int)) := by omega
  have hX : Hid (W1 = w.drew.setCells b (off + i * 3) (V.drop (j * 3))) := by rw [← hnews]; exact hW1
  have hle : i ≤ j := by omega
  have hne : ¬ i = j := by omega
  clear hW1 hcell1 hc hf hget hnews hlen hj
  go_enter Try.func90, Try.ntmps90
  go_wp2_with fail
  go_region_law (refine step_append_room rfl (.tmp 22) (.tmp 25) 22 rfl 57 i0 3 Try.underlying22 hi0 hz1 b off i cap (by simp [Act.eval, Act.put]) A (n - j) (cap - j) news (by simp [Act.eval, Act.put]) s1.out hsrc.out s2.out (by omega) s3.out ?_; rw [← hW.out])
  go_wp2
  go_ret
  exact ⟨rfl, by rw [hX.out]⟩
theorem del_callA (id n i : Nat) (c c' : C0) (f : Nat → Nat → Int) (hi : i < n) (hl : c.len = n) (hl' : c'.len = n) (hs : c.sz = 3) (hs' : c'.sz = 3)
    (hf : ∀ a j, a < n → j < 3 → c.cell a j = .int .i64 (f a j)) (hf' : ∀ a j, a < n → j < 3 → c'.cell a j = .int .i64 (shiftF f n i a j)) :
    ACall Try.prog 90 [.one (.rw id 0 n), .one (.int .i64 i), .one (.int .i64 ((i + 1 : Nat) : Int))] [(id, .flat c)] (fun ov oh => ov = .one (.rw id 0 (n - 1)) ∧ oh = [(id, .flat c')]) := by
  refine ⟨⟨_, Try.func90, rfl, rfl⟩, fun M us hH hM ha => ?_⟩
  obtain ⟨hl3, hv⟩ := ha
  obtain ⟨u0, hu0, hr0⟩ := hv 0 _ rfl
  obtain ⟨u1, hu1, hr1⟩ := hv 1 _ rfl
  obtain ⟨u2, hu2, hr2⟩ := hv 2 _ rfl
  obtain rfl : us = [u0, u1, u2] := by
    match us, hl3, hu0, hu1, hu2 with
    | [x, y, z], _, hu0, hu1, hu2 => cases hu0; cases hu1; cases hu2; rfl
  obtain rfl : u1 = .int .i64 i := hr1
  obtain rfl : u2 = .int .i64 ((i + 1 : Nat) : Int) := hr2
  have hlk : lk M.H (id, none) = some (.flat c) := by rw [hH]; simp [lk, look]
  obtain ⟨o, ho, _, hc⟩ := hr0
  rw [hlk] at ho
  cases ho
  rcases hc with ⟨h0, _⟩ | ⟨b, p, a, cap, hμ, rfl, hcap, hmax, ha, cur0, e0, hb0, hroom⟩
  · omega
  obtain ⟨cur, e, hb, hsz, hcells⟩ := hM.obj _ _ _ _ hlk hμ
  have hso : (Obj.flat c).sz = 3 := hs
  have hlo : (Obj.flat c).len = n := hl
  rw [hso, hlo] at hsz hcells
  have hsz' : p + n * 3 ≤ cur.size := hsz
  have hblk : b < M.w.heap.size := by
    rcases Nat.lt_or_ge b M.w.heap.size with h | h
    · exact h
    · rw [Array.getElem?_eq_none h] at hb; cases hb
  obtain rfl : a = p := by rw [ha]; omega
  have hcell : ∀ x j, x < n → j < 3 → cur[a + (x * 3 + j)]? = some (.int .i64 (f x j)) := by
    intro x j hx hj
    obtain ⟨u, h1, _, h2⟩ := hcells x hx j hj
    have h3 : VR M (c.cell x j) u := h2
    rw [hf x j hx hj] at h3
    have h4 : u = .int .i64 (f x j) := h3
    rw [h1, h4]
  have hcell2 : ∀ t, t < n * 3 → cur[a + t]? = some (.int .i64 (f (t / 3) (t % 3))) := fun t ht => by
    have := hcell (t / 3) (t % 3) (by omega) (by omega)
    rw [show t / 3 * 3 + t % 3 = t by omega] at this
    exact this
  obtain ⟨V, hV⟩ : ∃ V, V = (cur.toList.drop a).take (n * 3) := ⟨_, rfl⟩
  have hVl : V.length = n * 3 := by rw [hV, List.length_take, List.length_drop, Array.length_toList]; omega
  have hVa : ∀ t, t < n * 3 → V[t]? = some (.int .i64 (f (t / 3) (t % 3))) := fun t ht => by
    rw [hV, List.getElem?_take, if_pos ht, List.getElem?_drop, Array.getElem?_toList, hcell2 t ht]
  have hone : ∀ u ∈ V, u.oneCell' = true := fun u hu => by
    obtain ⟨t, ht, rfl⟩ := List.getElem_of_mem hu
    have := hVa t (by omega)
    rw [List.getElem?_eq_getElem ht] at this
    rw [Option.some.inj this]; rfl
  refine (del_cellsA b a n cap i (i + 1) V M.w rfl (by omega) hcap (by unfold maxLen at hmax; omega) hVl hone (fun t ht => ?_) (fun t ht => ?_)).mono fun e' w' hq => ?_
  · rw [hVa t ht]
    simp only [World.cell?, hb]
    simpa using hcell2 t ht
  · simp [World.frozen?, hb]
  obtain ⟨rfl, rfl⟩ := hq
  rw [show i + (n - (i + 1)) = n - 1 by omega]
  obtain ⟨news, hnews⟩ : ∃ news, news = V.drop ((i + 1) * 3) := ⟨_, rfl⟩
  have hnl : news.length = (n - (i + 1)) * 3 := by rw [hnews, List.length_drop, hVl]; omega
  have hna : ∀ t, t < (n - (i + 1)) * 3 → news[t]? = some (.int .i64 (f ((t + (i + 1) * 3) / 3) ((t + (i + 1) * 3) % 3))) := fun t ht => by
    rw [hnews, List.getElem?_drop, hVa _ (by omega), Nat.add_comm t]
  rw [← hnews]
  obtain ⟨zs, hzs⟩ : ∃ zs : List Value, zs = [.int .i64 0, .int .i64 0, .int .i64 0] := ⟨_, rfl⟩
  have hzl : zs.length = 3 := by rw [hzs]; rfl
  have hza : ∀ t, t < 3 → zs[t]? = some (.int .i64 0) := fun t ht => by
    rw [hzs]
    have : t = 0 ∨ t = 1 ∨ t = 2 := by omega
    rcases this with rfl | rfl | rfl <;> first | rfl | omega
  rw [← hzs]
  have hS1 := wrS news (a + i * 3) M.w.drew b
  have hS2 := wrS zs (a + (n - 1) * 3) (M.w.drew.setCells b (a + i * 3) news) b
  have hb1 : (M.w.drew.setCells b (a + i * 3) news).heap[b]? = some (.cells (wrC cur (a + i * 3) news) e (0, 0)) := wr_heap _ _ _ _ hb
  have hb2 : ((M.w.drew.setCells b (a + i * 3) news).setCells b (a + (n - 1) * 3) zs).heap[b]? = some (.cells (wrC (wrC cur (a + i * 3) news) (a + (n - 1) * 3) zs) e (0, 0)) := wr_heap _ _ _ _ hb1
  generalize hW : (M.w.drew.setCells b (a + i * 3) news).setCells b (a + (n - 1) * 3) zs = W' at hS2 hb2
  have hcs : (wrC (wrC cur (a + i * 3) news) (a + (n - 1) * 3) zs).size = cur.size := by rw [wrC_size, wrC_size]
  have hcv : ∀ x j, x < n → j < 3 → (wrC (wrC cur (a + i * 3) news) (a + (n - 1) * 3) zs)[a + (x * 3 + j)]? = some (.int .i64 (shiftF f n i x j)) := by
    intro x j hx hj
    rw [wrC_at _ _ _ _ (by rw [wrC_size]; omega)]
    unfold shiftF
    by_cases q : a + (n - 1) * 3 ≤ a + (x * 3 + j) ∧ a + (x * 3 + j) < a + (n - 1) * 3 + zs.length
    · rw [if_pos q, hza _ (by omega), if_neg (by omega), if_neg (by omega)]
    · rw [if_neg q, wrC_at _ _ _ _ (by omega)]
      by_cases q2 : a + i * 3 ≤ a + (x * 3 + j) ∧ a + (x * 3 + j) < a + i * 3 + news.length
      · rw [if_pos q2, hna _ (by omega), if_neg (by omega), if_pos (by omega)]
        have e1 : (a + (x * 3 + j) - (a + i * 3) + (i + 1) * 3) / 3 = x + 1 := by omega
        have e2 : (a + (x * 3 + j) - (a + i * 3) + (i + 1) * 3) % 3 = j := by omega
        rw [e1, e2]
      · rw [if_neg q2, hcell x j hx hj, if_pos (by omega)]
  have hsize : W'.heap.size = M.w.heap.size := hS2.size.trans hS1.size
  have hother : ∀ k, k ≠ b → W'.heap[k]? = M.w.heap[k]? := fun k hk => (hS2.other k hk).trans (hS1.other k hk)
  have hlk' : lk [(id, Obj.flat c')] (id, none) = some (.flat c') := by simp [lk, look]
  have hone' : ∀ {k o}, lk [(id, Obj.flat c')] k = some o → k = (id, none) ∧ o = .flat c' := fun h => lkd_one h
  have hone0 : ∀ {k o}, lk M.H k = some o → k = (id, none) ∧ o = .flat c := fun h => lkd_one (by rw [hH] at h; exact h)
  have hlive : ∀ k, (Mem.mk M.μ [(id, Obj.flat c')] W' M.free).live k ↔ M.live k := by
    intro k
    constructor
    · rintro ⟨x, o, q, h1, h2⟩
      obtain ⟨rfl, rfl⟩ := hone' h1
      exact ⟨_, _, q, hlk, h2⟩
    · rintro ⟨x, o, q, h1, h2⟩
      obtain ⟨rfl, rfl⟩ := hone0 h1
      exact ⟨_, _, q, hlk', h2⟩
  refine ⟨.one (.rw id 0 (n - 1)), .slice (some ⟨b, a, none⟩) (n - 1) cap, ⟨M.μ, [(id, .flat c')], W', M.free⟩, rfl, ⟨rfl, rfl⟩, ⟨.flat c', hlk', by show 0 + (n - 1) ≤ c'.len; omega, .inr ⟨b, a, a, cap, hμ, rfl, by omega, hmax, by omega, _, e, hb2, ?_⟩⟩, ?_, rfl, ?_⟩
  · have h9 : a + (0 + cap) * (Obj.flat c).sz ≤ cur0.size := hroom
    rw [hb] at hb0
    cases hb0
    show a + (0 + cap) * c'.sz ≤ _
    rw [hcs, hs']
    rw [hso] at h9
    exact h9
  · refine ⟨fun x i xss h => ?_, fun k hk => ⟨by show k < W'.heap.size; rw [hsize]; exact (hM.fr k hk).1, fun hl => (hM.fr k hk).2 ((hlive k).1 hl)⟩, fun x y o o' k q1 q2 h1 h2 _ _ => ?_, fun x o h1 h2 => ?_, fun x o k q h1 h2 => ?_⟩
    · have := hone' (k := (x, none)) (o := .mat i xss) h
      cases this.2
    · rw [(hone' h1).1, (hone' h2).1]
    · obtain ⟨rfl, rfl⟩ := hone' h1
      rw [hμ] at h2; cases h2
    · obtain ⟨rfl, rfl⟩ := hone' h1
      rw [hμ] at h2
      cases h2
      refine ⟨_, e, hb2, ?_, fun x hx j hj => ?_⟩
      · show a + c'.len * c'.sz ≤ _
        rw [hcs, hl', hs']; exact hsz'
      · have hx' : x < n := by have : x < c'.len := hx; omega
        have hj' : j < 3 := by have : j < c'.sz := hj; omega
        refine ⟨_, by show _[a + (x * c'.sz + j)]? = _; rw [hs']; exact hcv x j hx' hj', rfl, ?_⟩
        show VR _ (c'.cell x j) _
        rw [hf' x j hx' hj']
        rfl
  · have hWos : W'.os = M.w.os := hS2.os.trans hS1.os
    have hWt : W'.tape = M.w.tape := hS2.tape.trans hS1.tape
    have hWo : W'.output = M.w.output := hS2.output.trans hS1.output
    have hWd : M.w.drawn ≤ W'.drawn := by rw [hS2.drawn, hS1.drawn]; exact Nat.le_succ _
    refine ⟨⟨hWos, hWt, hWo, hWd, by show M.w.heap.size ≤ W'.heap.size; rw [hsize]; exact Nat.le_refl _, fun k hk hl => ⟨hother k (fun q => hl (by rw [q]; exact ⟨_, _, _, hlk, hμ⟩)), fun h => hl ((hlive k).1 h)⟩, fun k hk => hk, fun k hk => .inl hk⟩, fun x o _ h1 => ?_⟩
    obtain ⟨rfl, rfl⟩ := hone0 h1
    refine ⟨_, hlk', by show c'.sz = c.sz; rw [hs, hs'], by show c.len ≤ c'.len; omega, rfl, fun k q cur' e' h2 h3 => ?_⟩
    rw [hμ] at h2
    cases h2
    rw [hb] at h3
    cases h3
    exact ⟨_, hb2, hcs⟩
theorem del_arcs (id : Nat) (es : List Arc) (k : Int) (h0 : 0 ≤ k) (h1 : k < es.length) :
    ACall Try.prog 90 [.one (.rw id 0 es.length), .one (.int .i64 k), .one (.int .i64 (k + 1))] [(id, .flat (.arcs es))] (fun ov oh => ov = .one (.rw id 0 (es.length - 1)) ∧ oh = [(id, .flat (.arcs (delA es k.toNat)))]) := by
  obtain ⟨i, rfl⟩ := Int.eq_ofNat_of_zero_le h0
  have hi : i < es.length := by omega
  have h := del_callA id es.length i (.arcs es) (.arcs (delA es i)) (fun a j => match j with | 0 => (es.getD a default).src | 1 => (es.getD a default).dst | _ => (es.getD a default).cap) hi rfl (delA_len hi) rfl rfl
    (fun a j ha hj => by match j, hj with | 0, _ => rfl | 1, _ => rfl | 2, _ => rfl)
    (fun a j ha hj => by
      have e := delA_at hi a
      unfold shiftF
      match j, hj with
      | 0, _ => show V1.int .i64 ((delA es i).getD a default).src = _; rw [e]; split <;> (try split) <;> rfl
      | 1, _ => show V1.int .i64 ((delA es i).getD a default).dst = _; rw [e]; split <;> (try split) <;> rfl
      | 2, _ => show V1.int .i64 ((delA es i).getD a default).cap = _; rw [e]; split <;> (try split) <;> rfl)
  exact h
end Go.Ab
