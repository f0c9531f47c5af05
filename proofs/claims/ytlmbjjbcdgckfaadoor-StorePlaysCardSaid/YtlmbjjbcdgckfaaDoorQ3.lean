/- Parts of the proof, without conditions. -/
import Derived.Test.YtlmbjjbcdgckfaaDoorTab
import Derived.Test.YtlmbjjbcdgckfaaDoorQ2
import Derived.WalkKit
import Derived.Deep.LoopGhost
import Derived.Deep.RegionLaw
import Derived.Lib.SliceRun
import Derived.Laws.IdiomCopy
import Derived.Test.YtlmbjjbcdgckfaaDoorKk
import Derived.Test.YtlmbjjbcdgckfaaDoorQ0
import Derived.Test.YtlmbjjbcdgckfaaDoorPlA
import Derived.Test.YtlmbjjbcdgckfaaDoorAbC
import Derived.Maps.RangeRun
namespace Go.Ab
open Go Go.RowKit Go.Proofs
theorem infoI : (Tryd.prog.info? 3).map (fun i => (i.zero, i.size, i.bytes)) = some (some (.int .i64 0), 1, 8) := by kernel_rfl
theorem clear_oneI (w : World) (ty : TypeId) (b o c : Nat) (hv : ∀ w, (zeroValue 3).run Tryd.prog w = .ok (.int .i64 0) w)
  (hc : ∀ j, j < 1 → (w.cell? ⟨b, o + j, none⟩).isSome = true) (hf : ∀ j, j < 1 → w.frozen? ⟨b, o + j, none⟩ = false) :
  (Builtin.clear_ #[43] ty #[.slice (some ⟨b, o, none⟩) 1 c]).run Tryd.prog w = .ok (.tuple #[]) (w.setCells b o [.int .i64 0]) := by
 have hzc : (Builtin.zeroCells (.int .i64 0 : Value).cells 1).toList = [.int .i64 0] := by kernel_rfl
 have hst := run_storeCells_cells (P := Tryd.prog) b o [.int .i64 0] 0 w (by simpa using hc) (by simpa using hf) (by intro v hv'; simp at hv'; first | (rcases hv' with rfl | rfl | rfl <;> rfl) | (subst hv'; rfl))
 simp only [Nat.add_zero] at hst
 simp [Builtin.clear_, run_underlying Tryd.underlying43, hv, hzc, hst]
set_option maxHeartbeats 4000000 in
set_option maxRecDepth 1000000 in
theorem del_cellsI (b off n cap i j : Nat) (V : List Value) (w : World) (hj : j = i + 1) (hi : j ≤ n) (hl : n ≤ cap) (hm : cap ≤ 9223372036854775807) (hV : V.length = n * 1) (h1 : ∀ u ∈ V, u.oneCell' = true)
  (hc : ∀ t, t < n * 1 → w.cell? ⟨b, off + t, none⟩ = V[t]?) (hf : ∀ t, t < n * 1 → w.frozen? ⟨b, off + t, none⟩ = false) :
  Calls Tryd.prog 34 #[.slice (some ⟨b, off, none⟩) n cap, .int .i64 i, .int .i64 j] w fun e w' => e = .returned (.slice (some ⟨b, off, none⟩) (i + (n - j)) cap) ∧ w' = (w.drew.setCells b (off + i * 1) (V.drop (j * 1))).setCells b (off + (i + (n - j)) * 1) [.int .i64 0] := by
 obtain ⟨i0, hi0, hz0, hz1, hz2⟩ := info_parts infoI
 obtain ⟨news, hnews⟩ : ∃ news, news = V.drop (j * 1) := ⟨_, rfl⟩
 have hlen : news.length = (n - j) * 1 := by rw [hnews, List.length_drop, hV]; omega
 have hget : ∀ t, news[t]? = V[j * 1 + t]? := fun t => by rw [hnews, List.getElem?_drop]
 obtain ⟨A, hA, hsrc⟩ : ∃ A : Addr, (if cap = j then some (⟨b, off, none⟩ : Addr) else some ⟨b, off + j * 1, none⟩) = some A ∧ Hid (∀ t u, news[t]? = some u → w.drew.cell? (A.add t) = some u) := by
  by_cases h : cap = j
  ·refine ⟨⟨b, off, none⟩, by simp [h], fun t u hu => ?_⟩
   have h0 : news.length = 0 := by rw [hlen]; omega
   rw [List.length_eq_zero_iff.1 h0] at hu
   simp at hu
  ·refine ⟨⟨b, off + j * 1, none⟩, by simp [h], fun t u hu => ?_⟩
   have ht : t < (n - j) * 1 := by
    have := (List.getElem?_eq_some_iff.1 hu).1
    rwa [hlen] at this
   rw [hget] at hu
   rw [Addr.add_lit, show off + j * 1 + t = off + (j * 1 + t) by omega]
   exact (hc (j * 1 + t) (by omega)).trans hu
 have s1 : Hid (news.length = (n - j) * 1) := hlen
 have s2 : Hid (∀ u ∈ news, u.oneCell' = true) := by
  intro u hu
  rw [hnews] at hu
  exact h1 u (List.mem_of_mem_drop hu)
 have s3 : Hid (∀ t, t < news.length → (w.drew.cell? ⟨b, off + i * 1 + t, none⟩).isSome = true ∧ w.drew.frozen? ⟨b, off + i * 1 + t, none⟩ = false) := by
  intro t ht
  rw [hlen] at ht
  rw [Nat.add_assoc]
  refine ⟨?_, hf (i * 1 + t) (by omega)⟩
  show (w.cell? _).isSome = true
  rw [hc (i * 1 + t) (by omega), List.getElem?_eq_getElem (by omega)]; rfl
 obtain ⟨W1, hW1⟩ : ∃ W1, W1 = w.drew.setCells b (off + i * 1) news := ⟨_, rfl⟩
 have hcell1 : ∀ t, t < n * 1 → (W1.cell? ⟨b, off + t, none⟩).isSome = true ∧ W1.frozen? ⟨b, off + t, none⟩ = false := by
  intro t ht
  refine ⟨?_, by rw [hW1, World.frozen?_setCells]; exact hf t ht⟩
  by_cases q : i * 1 ≤ t ∧ t < i * 1 + news.length
  ·have h9 := World.cell?_setCells_in b news (off + i * 1) w.drew (fun k hk => (s3.out k hk).1) (t - i * 1) (by omega)
   rw [hW1, show off + t = off + i * 1 + (t - i * 1) by omega, h9]; rfl
  ·rw [hW1, World.cell?_setCells_out b news (off + i * 1) w.drew ⟨b, off + t, none⟩ (fun _ _ => by show off + t < off + i * 1 ∨ off + i * 1 + news.length ≤ off + t; omega)]
   show (w.cell? _).isSome = true
   rw [hc t ht, List.getElem?_eq_getElem (by omega)]; rfl
 have hcl : ∀ ty, (Builtin.clear_ #[43] ty #[.slice (some ⟨b, off + (i + (n - j)) * 1, none⟩) (n - (i + (n - j))) (cap - (i + (n - j)))]).run Tryd.prog W1 = .ok (.tuple #[]) (W1.setCells b (off + (i + (n - j)) * 1) [.int .i64 0]) := by
  intro ty
  rw [show n - (i + (n - j)) = 1 by omega]
  exact clear_oneI W1 ty b _ _ (fun w => by rfl) (fun t ht => by rw [Nat.add_assoc]; exact (hcell1 _ (by omega)).1) (fun t ht => by rw [Nat.add_assoc]; exact (hcell1 _ (by omega)).2)
 have hW : Hid (W1 = w.drew.setCells b (off + i * 1) news) := hW1
 have hic : i ≤ cap := by omega
 have hjc : j ≤ cap := by omega
 have hij : ¬ ((i : Int) = (j : Int)) := by omega
 have hX : Hid (W1 = w.drew.setCells b (off + i * 1) (V.drop (j * 1))) := by rw [← hnews]; exact hW1
 have hle : i ≤ j := by omega
 have hne : ¬ i = j := by omega
 clear hW1 hcell1 hc hf hget hnews hlen hj
 simp only [Nat.mul_one] at hA hcl hX
 go_enter Tryd.func34, Tryd.ntmps34
 go_wp2_with fail
 go_region_law (refine step_append_room rfl (.tmp 22) (.tmp 25) 43 rfl 3 i0 1 Tryd.underlying43 hi0 hz1 b off i cap (by simp [Act.eval, Act.put]) A (n - j) (cap - j) news (by simp [Act.eval, Act.put]) s1.out hsrc.out s2.out (by omega) s3.out ?_; rw [← hW.out])
 go_wp2
 go_ret
 exact ⟨rfl, by simp only [Nat.mul_one]; rw [hX.out]⟩
theorem del_callI (id n i : Nat) (c c' : C0) (f : Nat → Nat → Int) (hi : i < n) (hl : c.len = n) (hl' : c'.len = n) (hs : c.sz = 1) (hs' : c'.sz = 1)
  (hf : ∀ a j, a < n → j < 1 → c.cell a j = .int .i64 (f a j)) (hf' : ∀ a j, a < n → j < 1 → c'.cell a j = .int .i64 (shiftF f n i a j)) :
  ACall Tryd.prog 34 [.one (.rw id 0 n), .one (.int .i64 i), .one (.int .i64 ((i + 1 : Nat) : Int))] [(id, .flat c)] (fun ov oh => ov = .one (.rw id 0 (n - 1)) ∧ oh = [(id, .flat c')]) := by
 refine ⟨⟨_, Tryd.func34, rfl, rfl⟩, fun M us hH hM ha => ?_⟩
 obtain ⟨hl3, hv⟩ := ha
 obtain ⟨u0, hu0, hr0⟩ := hv 0 _ rfl
 obtain ⟨u1, hu1, hr1⟩ := hv 1 _ rfl
 obtain ⟨u2, hu2, hr2⟩ := hv 2 _ rfl
 obtain rfl : us = [u0, u1, u2] := by
  match us, hl3, hu0, hu1, hu2 with
  | [x, y, z], _, hu0, hu1, hu2 => cases hu0; cases hu1; cases hu2; rfl
 obtain rfl : u1 = .int .i64 i := hr1
 obtain rfl : u2 = .int .i64 ((i + 1 : Nat) : Int) := hr2
 have hlk : lk M.H (id, none) = some (.flat c) := by rw [hH]; simp [lk, look]
 obtain ⟨o, ho, _, hc⟩ := hr0
 rw [hlk] at ho
 cases ho
 rcases hc with ⟨h0, _⟩ | ⟨b, p, a, cap, hμ, rfl, hcap, hmax, ha, cur0, e0, hb0, hroom⟩
 ·omega
 obtain ⟨cur, e, hb, hsz, hcells⟩ := hM.obj _ _ _ _ hlk hμ
 have hso : (Obj.flat c).sz = 1 := hs
 have hlo : (Obj.flat c).len = n := hl
 rw [hso, hlo] at hsz hcells
 have hsz' : p + n * 1 ≤ cur.size := hsz
 have hblk : b < M.w.heap.size := by
  rcases Nat.lt_or_ge b M.w.heap.size with h | h
  ·exact h
  ·rw [Array.getElem?_eq_none h] at hb; cases hb
 obtain rfl : a = p := by rw [ha]; omega
 have hcell : ∀ x j, x < n → j < 1 → cur[a + (x * 1 + j)]? = some (.int .i64 (f x j)) := by
  intro x j hx hj
  obtain ⟨u, h1, _, h2⟩ := hcells x hx j hj
  have h3 : VR M (c.cell x j) u := h2
  rw [hf x j hx hj] at h3
  have h4 : u = .int .i64 (f x j) := h3
  rw [h1, h4]
 have hcell2 : ∀ t, t < n * 1 → cur[a + t]? = some (.int .i64 (f (t / 1) (t % 1))) := fun t ht => by
  have := hcell (t / 1) (t % 1) (by omega) (by omega)
  rw [show t / 1 * 1 + t % 1 = t by omega] at this
  exact this
 obtain ⟨V, hV⟩ : ∃ V, V = (cur.toList.drop a).take (n * 1) := ⟨_, rfl⟩
 have hVl : V.length = n * 1 := by rw [hV, List.length_take, List.length_drop, Array.length_toList]; omega
 have hVa : ∀ t, t < n * 1 → V[t]? = some (.int .i64 (f (t / 1) (t % 1))) := fun t ht => by
  rw [hV, List.getElem?_take, if_pos ht, List.getElem?_drop, Array.getElem?_toList, hcell2 t ht]
 have hone : ∀ u ∈ V, u.oneCell' = true := fun u hu => by
  obtain ⟨t, ht, rfl⟩ := List.getElem_of_mem hu
  have := hVa t (by omega)
  rw [List.getElem?_eq_getElem ht] at this
  rw [Option.some.inj this]; rfl
 refine (del_cellsI b a n cap i (i + 1) V M.w rfl (by omega) hcap (by unfold maxLen at hmax; omega) hVl hone (fun t ht => ?_) (fun t ht => ?_)).mono fun e' w' hq => ?_
 ·rw [hVa t ht]
  simp only [World.cell?, hb]
  simpa using hcell2 t ht
 ·simp [World.frozen?, hb]
 obtain ⟨rfl, rfl⟩ := hq
 rw [show i + (n - (i + 1)) = n - 1 by omega]
 obtain ⟨news, hnews⟩ : ∃ news, news = V.drop ((i + 1) * 1) := ⟨_, rfl⟩
 have hnl : news.length = (n - (i + 1)) * 1 := by rw [hnews, List.length_drop, hVl]; omega
 have hna : ∀ t, t < (n - (i + 1)) * 1 → news[t]? = some (.int .i64 (f ((t + (i + 1) * 1) / 1) ((t + (i + 1) * 1) % 1))) := fun t ht => by
  rw [hnews, List.getElem?_drop, hVa _ (by omega), Nat.add_comm t]
 rw [← hnews]
 obtain ⟨zs, hzs⟩ : ∃ zs : List Value, zs = [.int .i64 0] := ⟨_, rfl⟩
 have hzl : zs.length = 1 := by rw [hzs]; rfl
 have hza : ∀ t, t < 1 → zs[t]? = some (.int .i64 0) := fun t ht => by
  rw [hzs]
  have : t = 0 ∨ t = 1 ∨ t = 2 := by omega
  rcases this with rfl | rfl | rfl <;> first | rfl | omega
 rw [← hzs]
 have hS1 := wrS news (a + i * 1) M.w.drew b
 have hS2 := wrS zs (a + (n - 1) * 1) (M.w.drew.setCells b (a + i * 1) news) b
 have hb1 : (M.w.drew.setCells b (a + i * 1) news).heap[b]? = some (.cells (wrC cur (a + i * 1) news) e (0, 0)) := wr_heap _ _ _ _ hb
 have hb2 : ((M.w.drew.setCells b (a + i * 1) news).setCells b (a + (n - 1) * 1) zs).heap[b]? = some (.cells (wrC (wrC cur (a + i * 1) news) (a + (n - 1) * 1) zs) e (0, 0)) := wr_heap _ _ _ _ hb1
 generalize hW : (M.w.drew.setCells b (a + i * 1) news).setCells b (a + (n - 1) * 1) zs = W' at hS2 hb2
 have hcs : (wrC (wrC cur (a + i * 1) news) (a + (n - 1) * 1) zs).size = cur.size := by rw [wrC_size, wrC_size]
 have hcv : ∀ x j, x < n → j < 1 → (wrC (wrC cur (a + i * 1) news) (a + (n - 1) * 1) zs)[a + (x * 1 + j)]? = some (.int .i64 (shiftF f n i x j)) := by
  intro x j hx hj
  rw [wrC_at _ _ _ _ (by rw [wrC_size]; omega)]
  unfold shiftF
  by_cases q : a + (n - 1) * 1 ≤ a + (x * 1 + j) ∧ a + (x * 1 + j) < a + (n - 1) * 1 + zs.length
  ·rw [if_pos q, hza _ (by omega), if_neg (by omega), if_neg (by omega)]
  ·rw [if_neg q, wrC_at _ _ _ _ (by omega)]
   by_cases q2 : a + i * 1 ≤ a + (x * 1 + j) ∧ a + (x * 1 + j) < a + i * 1 + news.length
   ·rw [if_pos q2, hna _ (by omega), if_neg (by omega), if_pos (by omega)]
    have e1 : (a + (x * 1 + j) - (a + i * 1) + (i + 1) * 1) / 1 = x + 1 := by omega
    have e2 : (a + (x * 1 + j) - (a + i * 1) + (i + 1) * 1) % 1 = j := by omega
    rw [e1, e2]
   ·rw [if_neg q2, hcell x j hx hj, if_pos (by omega)]
 have hsize : W'.heap.size = M.w.heap.size := hS2.size.trans hS1.size
 have hother : ∀ k, k ≠ b → W'.heap[k]? = M.w.heap[k]? := fun k hk => (hS2.other k hk).trans (hS1.other k hk)
 have hlk' : lk [(id, Obj.flat c')] (id, none) = some (.flat c') := by simp [lk, look]
 have hone' : ∀ {k o}, lk [(id, Obj.flat c')] k = some o → k = (id, none) ∧ o = .flat c' := fun h => lkd_one h
 have hone0 : ∀ {k o}, lk M.H k = some o → k = (id, none) ∧ o = .flat c := fun h => lkd_one (by rw [hH] at h; exact h)
 have hlive : ∀ k, (Mem.mk M.μ [(id, Obj.flat c')] W' M.free).live k ↔ M.live k := by
  intro k
  constructor
  ·rintro ⟨x, o, q, h1, h2⟩
   obtain ⟨rfl, rfl⟩ := hone' h1
   exact ⟨_, _, q, hlk, h2⟩
  ·rintro ⟨x, o, q, h1, h2⟩
   obtain ⟨rfl, rfl⟩ := hone0 h1
   exact ⟨_, _, q, hlk', h2⟩
 refine ⟨.one (.rw id 0 (n - 1)), .slice (some ⟨b, a, none⟩) (n - 1) cap, ⟨M.μ, [(id, .flat c')], W', M.free⟩, rfl, ⟨rfl, rfl⟩, ⟨.flat c', hlk', by show 0 + (n - 1) ≤ c'.len; omega, .inr ⟨b, a, a, cap, hμ, rfl, by omega, hmax, by omega, _, e, hb2, ?_⟩⟩, ?_, rfl, ?_⟩
 ·have h9 : a + (0 + cap) * (Obj.flat c).sz ≤ cur0.size := hroom
  rw [hb] at hb0
  cases hb0
  show a + (0 + cap) * c'.sz ≤ _
  rw [hcs, hs']
  rw [hso] at h9
  exact h9
 ·refine ⟨fun x i xss h => ?_, fun k hk => ⟨by show k < W'.heap.size; rw [hsize]; exact (hM.fr k hk).1, fun hl => (hM.fr k hk).2 ((hlive k).1 hl)⟩, fun x y o o' k q1 q2 h1 h2 _ _ => ?_, fun x o h1 h2 => ?_, fun x o k q h1 h2 => ?_⟩
  ·have := hone' (k := (x, none)) (o := .mat i xss) h
   cases this.2
  ·rw [(hone' h1).1, (hone' h2).1]
  ·obtain ⟨rfl, rfl⟩ := hone' h1
   rw [hμ] at h2; cases h2
  ·obtain ⟨rfl, rfl⟩ := hone' h1
   rw [hμ] at h2
   cases h2
   refine ⟨_, e, hb2, ?_, fun x hx j hj => ?_⟩
   ·show a + c'.len * c'.sz ≤ _
    rw [hcs, hl', hs']; exact hsz'
   ·have hx' : x < n := by have : x < c'.len := hx; omega
    have hj' : j < 1 := by have : j < c'.sz := hj; omega
    refine ⟨_, by show _[a + (x * c'.sz + j)]? = _; rw [hs']; exact hcv x j hx' hj', rfl, ?_⟩
    show VR _ (c'.cell x j) _
    rw [hf' x j hx' hj']
    rfl
 ·have hWos : W'.os = M.w.os := hS2.os.trans hS1.os
  have hWt : W'.tape = M.w.tape := hS2.tape.trans hS1.tape
  have hWo : W'.output = M.w.output := hS2.output.trans hS1.output
  have hWd : M.w.drawn ≤ W'.drawn := by rw [hS2.drawn, hS1.drawn]; exact Nat.le_succ _
  refine ⟨⟨hWos, hWt, hWo, hWd, by show M.w.heap.size ≤ W'.heap.size; rw [hsize]; exact Nat.le_refl _, fun k hk hl => ⟨hother k (fun q => hl (by rw [q]; exact ⟨_, _, _, hlk, hμ⟩)), fun h => hl ((hlive k).1 h)⟩, fun k hk => hk, fun k hk => .inl hk⟩, fun x o _ h1 => ?_⟩
  obtain ⟨rfl, rfl⟩ := hone0 h1
  refine ⟨_, hlk', by show c'.sz = c.sz; rw [hs, hs'], by show c.len ≤ c'.len; omega, rfl, fun k q cur' e' h2 h3 => ?_⟩
  rw [hμ] at h2
  cases h2
  rw [hb] at h3
  cases h3
  exact ⟨_, hb2, hcs⟩
theorem del_ints (id : Nat) (zs : List Int) (k : Int) (h0 : 0 ≤ k) (h1 : k < zs.length) :
  ACall Tryd.prog 34 [.one (.rw id 0 zs.length), .one (.int .i64 k), .one (.int .i64 (k + 1))] [(id, .flat (.ints .i64 zs))] (fun ov oh => ov = .one (.rw id 0 (zs.length - 1)) ∧ oh = [(id, .flat (.ints .i64 (delI zs k.toNat)))]) := by
 obtain ⟨i, rfl⟩ := Int.eq_ofNat_of_zero_le h0
 have hi : i < zs.length := by omega
 exact del_callI id zs.length i (.ints .i64 zs) (.ints .i64 (delI zs i)) (fun a _ => zs.getD a 0) hi rfl (delI_len hi) rfl rfl
  (fun a j ha hj => rfl) (fun a j ha hj => by
   show V1.int .i64 ((delI zs i).getD a 0) = _
   rw [delI_at hi a]; unfold shiftF; split <;> (try split) <;> rfl)
end Go.Ab
set_option maxRecDepth 100000
namespace Go.Ab
open Go Go.Proofs
theorem clone_arcs (l : List Arc) (hl : l.length * 24 ≤ 140737488355328) : ACall Tryd.prog 11 [.one (.ro (.arcs l))] [] (fun ov oh => ov = .w 9001 l.length ∧ oh = [(9001, .fa l)]) := by
 refine acall_intro hT Tryd.func11 rfl (by kernel_rfl) rfl (by kernel_rfl) ?_
 refine awp_len 0 0 (.arcs l) (by kernel_rfl) (fun hlen => ?_)
 simp only [C0.len, maxLen] at hlen
 refine kq [] ⟨8, [(0, .one (.ro (.arcs l)))], []⟩ hT (by kernel_rfl) trivial ?_
 refine awp_seq ?_
 refine awp_seq (awp_region ?_)
 refine ko 1 [] ⟨8, [(0, .one (.ro (.arcs l))), (3, .one (.ro (.arcs l)))], []⟩ hT (by kernel_rfl) (by kernel_rfl) trivial ?_
 refine aops_isnil (v := (.ro (.arcs l))) false hT rfl rfl rfl rfl (by kernel_rfl) (show T 25 = some _ from rfl) rfl (by kernel_rfl) rfl ?_
 intro nb1 hnb1
 replace hnb1 : nb1 = true → l.length = 0 := hnb1
 refine ku ⟨8, [(0, .one (.ro (.arcs l))), (3, .one (.ro (.arcs l))), (4, .one (.bool nb1))], []⟩ (by kernel_rfl) ?_
 refine ku ⟨8, [(0, .one (.ro (.arcs l))), (4, .one (.bool nb1))], []⟩ (by kernel_rfl) ?_
 refine aops_end_seq (by kernel_rfl) ?_
 refine awp_cond (b := nb1) (by kernel_rfl) (fun c1 => ?_) (fun c1 => ?_)
 ·
  refine kq [] ⟨8, [(2, .one .nils)], []⟩ hT (by kernel_rfl) trivial ?_
  refine awp_weak (awk_empty 5002 (.fa []) rfl (by decide) _) ?_
  refine awp_weak (awk_slot 2 (.one .nils) (.w 5002 0) _ (by kernel_rfl) (.one (wkv_nils (o := .fa []) (by kernel_rfl)))) ?_
  refine awp_weak (awk_ren 5002 9001 (s' := ⟨8, [(2, .w 9001 0)], [(9001, .fa [])]⟩) (by kernel_rfl)) ?_
  refine awp_ret ?_
  refine kRet.ret _ [9001] [] (.w 9001 0) [(9001, .fa [])] (by kernel_rfl) trivial ?_
  exact ⟨(by rw [List.eq_nil_of_length_eq_zero (hnb1 c1)]; rfl), (by rw [List.eq_nil_of_length_eq_zero (hnb1 c1)])⟩
 ·
  refine awp_skip ?_
  refine kq [(0 = 0), ((0 + l.length) * 24 ≤ 140737488355328), ((0 + l.length) ≤ 9223372036854775807)] ⟨8, [(2, .w 105 (0 + l.length))], [(105, .fa l)]⟩ hT (by kernel_rfl) ⟨(by decide), (by omega), (by omega), trivial⟩ ?_
  refine awp_weak (awk_ren 105 9001 (s' := ⟨8, [(2, .w 9001 (0 + l.length))], [(9001, .fa l)]⟩) (by kernel_rfl)) ?_
  refine awp_ret ?_
  refine kRet.ret _ [9001] [] (.w 9001 (0 + l.length)) [(9001, .fa l)] (by kernel_rfl) trivial ?_
  exact ⟨(by rw [Nat.zero_add]), (by kernel_rfl)⟩
theorem clone_ints (l : List Int) (hl : l.length * 8 ≤ 140737488355328) : ACall Tryd.prog 30 [.one (.ro (.ints .i64 l))] [] (fun ov oh => ov = .w 9001 l.length ∧ oh = [(9001, .fi l)]) := by
 refine acall_intro hT Tryd.func30 rfl (by kernel_rfl) rfl (by kernel_rfl) ?_
 refine awp_len 0 0 (.ints .i64 l) (by kernel_rfl) (fun hlen => ?_)
 simp only [C0.len, maxLen] at hlen
 refine kq [] ⟨8, [(0, .one (.ro (.ints .i64 l)))], []⟩ hT (by kernel_rfl) trivial ?_
 refine awp_seq ?_
 refine awp_seq (awp_region ?_)
 refine ko 1 [] ⟨8, [(0, .one (.ro (.ints .i64 l))), (3, .one (.ro (.ints .i64 l)))], []⟩ hT (by kernel_rfl) (by kernel_rfl) trivial ?_
 refine aops_isnil (v := (.ro (.ints .i64 l))) false hT rfl rfl rfl rfl (by kernel_rfl) (show T 43 = some _ from rfl) rfl (by kernel_rfl) rfl ?_
 intro nb1 hnb1
 replace hnb1 : nb1 = true → l.length = 0 := hnb1
 refine ku ⟨8, [(0, .one (.ro (.ints .i64 l))), (3, .one (.ro (.ints .i64 l))), (4, .one (.bool nb1))], []⟩ (by kernel_rfl) ?_
 refine ku ⟨8, [(0, .one (.ro (.ints .i64 l))), (4, .one (.bool nb1))], []⟩ (by kernel_rfl) ?_
 refine aops_end_seq (by kernel_rfl) ?_
 refine awp_cond (b := nb1) (by kernel_rfl) (fun c1 => ?_) (fun c1 => ?_)
 ·
  refine kq [] ⟨8, [(2, .one .nils)], []⟩ hT (by kernel_rfl) trivial ?_
  refine awp_weak (awk_empty 5002 (.fi []) rfl (by decide) _) ?_
  refine awp_weak (awk_slot 2 (.one .nils) (.w 5002 0) _ (by kernel_rfl) (.one (wkv_nils (o := .fi []) (by kernel_rfl)))) ?_
  refine awp_weak (awk_ren 5002 9001 (s' := ⟨8, [(2, .w 9001 0)], [(9001, .fi [])]⟩) (by kernel_rfl)) ?_
  refine awp_ret ?_
  refine kRet.ret _ [9001] [] (.w 9001 0) [(9001, .fi [])] (by kernel_rfl) trivial ?_
  exact ⟨(by rw [List.eq_nil_of_length_eq_zero (hnb1 c1)]; rfl), (by rw [List.eq_nil_of_length_eq_zero (hnb1 c1)])⟩
 ·
  refine awp_skip ?_
  refine kq [(0 = 0), ((0 + l.length) * 8 ≤ 140737488355328), ((0 + l.length) ≤ 9223372036854775807)] ⟨8, [(2, .w 105 (0 + l.length))], [(105, .fi l)]⟩ hT (by kernel_rfl) ⟨(by decide), (by omega), (by omega), trivial⟩ ?_
  refine awp_weak (awk_ren 105 9001 (s' := ⟨8, [(2, .w 9001 (0 + l.length))], [(9001, .fi l)]⟩) (by kernel_rfl)) ?_
  refine awp_ret ?_
  refine kRet.ret _ [9001] [] (.w 9001 (0 + l.length)) [(9001, .fi l)] (by kernel_rfl) trivial ?_
  exact ⟨(by rw [Nat.zero_add]), (by kernel_rfl)⟩
end Go.Ab
set_option maxRecDepth 100000
namespace Go.Ab
open Go Go.Proofs
abbrev ZD0 (a0 : List Arc) (a1) := ([(.i ((List.getD a0 a1 default).src)), (.i ((List.getD a0 a1 default).dst)), (.i ((List.getD a0 a1 default).cap))] : List V1)
abbrev ZD1 (a0 : Int) := ([(1, .box 1 1 [(.i a0)])] : List (Nat × Obj))
abbrev ZD2 (a0 : List Arc) := ((7, .i ((a0.length : Nat) : Int)) : Nat × AV)
abbrev ZD3 (a0 : FuncId) := ((1, .one (.fn a0 [(.ptr 1 0 0)])) : Nat × AV)
abbrev ZD4 (a0) := ((8, .i (a0 : Int)) : Nat × AV)
abbrev ZD5 (a0) := ((5, .i (a0 : Int)) : Nat × AV)
theorem idxf_arcs_i (F : FuncId) (p : Arc → Bool) (l : List Arc) (cn : Int) (hF : ∀ x ∈ l, ACall Tryd.prog F [.agg [(.i x.src), (.i x.dst), (.i x.cap)], .p 1] (ZD1 cn) (fun ov oh => ov = .one (.bool (p x)) ∧ oh = (ZD1 cn))) : ACall Tryd.prog 61 [.one (.ro (.arcs l)), .one (.fn F [(.ptr 1 0 0)])] (ZD1 cn) (fun ov oh => ov = .i (idxOf p l) ∧ oh = (ZD1 cn)) := by
 refine acall_intro hT Tryd.func61 rfl (by kernel_rfl) rfl (by kernel_rfl) ?_
 refine awp_len 0 0 (.arcs l) (by kernel_rfl) (fun hlen => ?_)
 simp only [C0.len, maxLen] at hlen
 refine kq [] ⟨19, [(0, .one (.ro (.arcs l))), (ZD3 F)], (ZD1 cn)⟩ hT (by kernel_rfl) trivial ?_
 refine awp_seq ?_
 refine kq [] ⟨19, [(0, .one (.ro (.arcs l))), (ZD3 F), (ZD2 l), (8, .i 0)], (ZD1 cn)⟩ hT (by kernel_rfl) trivial ?_
 refine awp_block ?_
 refine awp_loop (I := fun κ σ => ∃ (i : Nat), ((i ≤ l.length) ∧ (∀ j, j < i → p (List.getD l j default) = false) ∧ l.length - i = κ) ∧ σ = ⟨19, [(0, .one (.ro (.arcs l))), (ZD3 F), (ZD2 l), (ZD4 i)], (ZD1 cn)⟩) _ ⟨0, ⟨(by omega), (by intro j hj; omega), rfl⟩, (by kernel_rfl)⟩ ?_
 rintro κ _ ⟨i, ⟨hi, hp, rfl⟩, rfl⟩
 refine kq [] ⟨19, [(0, .one (.ro (.arcs l))), (ZD3 F), (ZD2 l), (ZD4 i), (9, .one (.bool (decide ((i : Int) < ((l.length : Nat) : Int)))))], (ZD1 cn)⟩ hT (by kernel_rfl) trivial ?_
 refine awp_seq ?_
 refine awp_cond (b := (decide ((i : Int) < ((l.length : Nat) : Int)))) (by kernel_rfl) (fun c2 => ?_) (fun c2 => ?_)
 ·
  try simp only [bs] at c2
  refine awp_skip ?_
  refine awp_seq ?_
  refine awp_block ?_
  refine kq [] ⟨19, [(0, .one (.ro (.arcs l))), (ZD3 F), (ZD5 i), (ZD2 l), (ZD4 i)], (ZD1 cn)⟩ hT (by kernel_rfl) trivial ?_
  refine awp_seq (awp_region ?_)
  refine ko 5 [((0 : Int) ≤ (i : Int)), ((i : Int) < ((l.length : Nat) : Int))] ⟨19, [(0, .one (.ro (.arcs l))), (ZD3 F), (ZD5 i), (ZD2 l), (ZD4 i), (11, .one (.fn F [(.ptr 1 0 0)])), (15, .agg (ZD0 l i))], (ZD1 cn)⟩ hT (by kernel_rfl) (by kernel_rfl) ⟨(by omega), (by omega), trivial⟩ ?_
  refine aops_call [(1, 1)] [] false ⟨true, [], F, [.agg (ZD0 l i), .p 1], (ZD1 cn)⟩ [.agg (ZD0 l i), .p 1] (sm := ⟨19, [(0, .one (.ro (.arcs l))), (ZD3 F), (ZD5 i), (ZD2 l), (ZD4 i), (11, .one (.fn F [(.ptr 1 0 0)])), (15, .agg (ZD0 l i)), (16, .whn false (.one .any))], (ZD1 cn)⟩) (by kernel_rfl) (by kernel_rfl) (by decide) (fun _ => trivial) rfl (fun _ => hF _ (getD_mem (by omega))) (fun _ v Hr hv => ?_) (fun h => by cases h)
  obtain ⟨rfl, rfl⟩ := hv
  refine ⟨⟨19, [(0, .one (.ro (.arcs l))), (ZD3 F), (ZD5 i), (ZD2 l), (ZD4 i), (11, .one (.fn F [(.ptr 1 0 0)])), (15, .agg (ZD0 l i)), (16, .one (.bool (p (List.getD l i default))))], (ZD1 cn)⟩, by kernel_rfl, ?_⟩
  refine ku ⟨19, [(0, .one (.ro (.arcs l))), (ZD3 F), (ZD5 i), (ZD2 l), (ZD4 i), (16, .one (.bool (p (List.getD l i default))))], (ZD1 cn)⟩ (by kernel_rfl) ?_
  refine aops_end_seq (by kernel_rfl) ?_
  refine awp_cond (b := (p (List.getD l i default))) (by kernel_rfl) (fun c4 => ?_) (fun c4 => ?_)
  ·
   try simp only [bs] at c4
   refine kq [] ⟨19, [(4, .i (i : Int))], (ZD1 cn)⟩ hT (by kernel_rfl) trivial ?_
   refine awp_ret ?_
   refine kRet.ret _ [] [] (.i (i : Int)) (ZD1 cn) (by kernel_rfl) trivial ?_
   exact ⟨(by rw [idxOf_at hp (by omega) c4]), (by kernel_rfl)⟩
  ·
   try simp only [bs] at c4
   refine awp_skip ?_
   refine kr [(-9223372036854775808 ≤ (((i + 1) : Nat) : Int) ∧ (((i + 1) : Nat) : Int) ≤ 9223372036854775807)] ⟨19, [(0, .one (.ro (.arcs l))), (ZD3 F), (ZD2 l), (8, .i (((i + 1) : Nat) : Int))], (ZD1 cn)⟩ hT (by kernel_rfl) ⟨(by omega), trivial⟩ ?_
   refine loop_end _ ?_ ⟨(i + 1), ⟨(by omega), (by intro j hj; rcases Nat.lt_succ_iff_lt_or_eq.1 hj with h | h; exact hp j h; subst h; exact c4), rfl⟩, (by kernel_rfl)⟩
   omega
 ·
  try simp only [bs] at c2
  refine awp_exit ?_
  refine kq [] ⟨19, [(4, .i (-1))], (ZD1 cn)⟩ hT (by kernel_rfl) trivial ?_
  refine awp_ret ?_
  refine kRet.ret _ [] [] (.i (-1)) (ZD1 cn) (by kernel_rfl) trivial ?_
  exact ⟨(by rw [idxOf_none (d := default) fun j hj => hp j (by omega)]), (by kernel_rfl)⟩
end Go.Ab
set_option maxRecDepth 100000
namespace Go.Ab
open Go Go.Proofs
abbrev ZFG (g : Bool) : Prop := g = true → g = true
abbrev ZFL (g : Bool) : Prop := g = true → (0 < 1)
abbrev ZFT (g : Bool) : Prop := g = true → (g = true → g = true)
abbrev ZFb0 (a0 : Int) (a1 : Int) (a2 : Int) (a3 : Int) := (((decide (a0 = a1)) && (decide (a2 = a3))) : Bool)
abbrev ZF0 (a0 : List Arc) := ((12, .i ((a0.length : Nat) : Int)) : Nat × AV)
abbrev ZF1 (a0 : Int) (a1 : Int) (a2 : Int) (a3 : List Arc) := ([(.i a0), (.i a1), (.i a2), (.ro (.arcs a3))] : List V1)
theorem equal_arcs (xs ys : List Arc) : ACall Tryd.prog 26 [.one (.ro (.arcs xs)), .one (.ro (.arcs ys))] [] (fun ov oh => ov = .one (.bool (decide (xs = ys))) ∧ oh = []) := by
 refine acall_intro hT Tryd.func26 rfl (by kernel_rfl) rfl (by kernel_rfl) ?_
 refine awp_len 0 0 (.arcs xs) (by kernel_rfl) (fun hlen => ?_)
 simp only [C0.len, maxLen] at hlen
 refine kq [] ⟨26, [(0, .one (.ro (.arcs xs))), (1, .one (.ro (.arcs ys)))], []⟩ hT (by kernel_rfl) trivial ?_
 refine awp_seq ?_
 refine kq [] ⟨26, [(0, .one (.ro (.arcs xs))), (1, .one (.ro (.arcs ys))), (10, .one (.bool (decide (((xs.length : Nat) : Int) ≠ ((ys.length : Nat) : Int)))))], []⟩ hT (by kernel_rfl) trivial ?_
 refine awp_cond (b := (decide (((xs.length : Nat) : Int) ≠ ((ys.length : Nat) : Int)))) (by kernel_rfl) (fun c1 => ?_) (fun c1 => ?_)
 ·
  try simp only [bs] at c1
  refine kq [] ⟨26, [(4, .one (.bool false))], []⟩ hT (by kernel_rfl) trivial ?_
  refine awp_ret ?_
  refine kRet.ret _ [] [] (.one (.bool false)) [] (by kernel_rfl) trivial ?_
  exact ⟨congrArg (fun x1 => (.one (.bool x1) : AV)) (show false = (decide (xs = ys)) from by exact eq_no (fun h => by subst h; omega)), rfl⟩
 ·
  try simp only [bs] at c1
  refine awp_skip ?_
  refine awp_seq ?_
  refine kq [] ⟨26, [(0, .one (.ro (.arcs xs))), (1, .one (.ro (.arcs ys))), (ZF0 xs), (13, .i 0)], []⟩ hT (by kernel_rfl) trivial ?_
  refine awp_block ?_
  refine awp_loop (I := fun κ σ => ∃ (i : Nat), ((i ≤ xs.length) ∧ (∀ j, j < i → List.getD xs j default = List.getD ys j default) ∧ xs.length - i = κ) ∧ σ = ⟨26, [(0, .one (.ro (.arcs xs))), (1, .one (.ro (.arcs ys))), (ZF0 xs), (13, .i (i : Int))], []⟩) _ ⟨0, ⟨(by omega), (by intro j hj; omega), rfl⟩, (by kernel_rfl)⟩ ?_
  rintro κ _ ⟨i, ⟨hi, hp, rfl⟩, rfl⟩
  refine kq [] ⟨26, [(0, .one (.ro (.arcs xs))), (1, .one (.ro (.arcs ys))), (ZF0 xs), (13, .i (i : Int)), (14, .one (.bool (decide ((i : Int) < ((xs.length : Nat) : Int)))))], []⟩ hT (by kernel_rfl) trivial ?_
  refine awp_seq ?_
  refine awp_cond (b := (decide ((i : Int) < ((xs.length : Nat) : Int)))) (by kernel_rfl) (fun c4 => ?_) (fun c4 => ?_)
  ·
   try simp only [bs] at c4
   refine awp_skip ?_
   refine awp_seq ?_
   refine awp_block ?_
   refine kq [] ⟨26, [(0, .one (.ro (.arcs xs))), (1, .one (.ro (.arcs ys))), (5, .i (i : Int)), (ZF0 xs), (13, .i (i : Int))], []⟩ hT (by kernel_rfl) trivial ?_
   refine awp_seq (awp_still [0, 1, 12, 13, 24] [] [((0 : Int) ≤ (i : Int)), ((i : Int) < ((xs.length : Nat) : Int)), ((0 : Int) ≤ (i : Int)), ((i : Int) < ((ys.length : Nat) : Int))] ⟨26, [(0, .one (.ro (.arcs xs))), (1, .one (.ro (.arcs ys))), (ZF0 xs), (13, .i (i : Int)), (24, .one (.bool (!((decide (((List.getD xs i default).src) = ((List.getD ys i default).src))) && ((decide (((List.getD xs i default).dst) = ((List.getD ys i default).dst))) && (decide (((List.getD xs i default).cap) = ((List.getD ys i default).cap))))))))], []⟩ (by kernel_rfl) (by kernel_rfl) hT (by kernel_rfl) ⟨(by omega), (by omega), (by omega), (by omega), trivial⟩ ?_)
   refine awp_cond (b := (!((decide (((List.getD xs i default).src) = ((List.getD ys i default).src))) && ((decide (((List.getD xs i default).dst) = ((List.getD ys i default).dst))) && (decide (((List.getD xs i default).cap) = ((List.getD ys i default).cap))))))) (by kernel_rfl) (fun c6 => ?_) (fun c6 => ?_)
   ·
    try simp only [bs] at c6
    refine kq [] ⟨26, [(4, .one (.bool false))], []⟩ hT (by kernel_rfl) trivial ?_
    refine awp_ret ?_
    refine kRet.ret _ [] [] (.one (.bool false)) [] (by kernel_rfl) trivial ?_
    exact ⟨congrArg (fun x1 => (.one (.bool x1) : AV)) (show false = (decide (xs = ys)) from by exact eq_no (fun h => by subst h; simp at c6)), rfl⟩
   ·
    try simp only [bs] at c6
    refine awp_skip ?_
    refine kr [(-9223372036854775808 ≤ (((i + 1) : Nat) : Int) ∧ (((i + 1) : Nat) : Int) ≤ 9223372036854775807)] ⟨26, [(0, .one (.ro (.arcs xs))), (1, .one (.ro (.arcs ys))), (ZF0 xs), (13, .i (((i + 1) : Nat) : Int))], []⟩ hT (by kernel_rfl) ⟨(by omega), trivial⟩ ?_
    refine loop_end _ ?_ ⟨(i + 1), ⟨(by omega), (by intro j hj; rcases Nat.lt_succ_iff_lt_or_eq.1 hj with h | h; exact hp j h; subst h; simpa [Arc.ext_iff'] using c6), rfl⟩, (by kernel_rfl)⟩
    omega
  ·
   try simp only [bs] at c4
   refine awp_exit ?_
   refine kq [] ⟨26, [(4, .one (.bool true))], []⟩ hT (by kernel_rfl) trivial ?_
   refine awp_ret ?_
   refine kRet.ret _ [] [] (.one (.bool true)) [] (by kernel_rfl) trivial ?_
   exact ⟨congrArg (fun x1 => (.one (.bool x1) : AV)) (show true = (decide (xs = ys)) from by exact eq_yes (list_ext default (by omega) (fun j hj => hp j (by omega)))), rfl⟩
theorem same_arcs (xs ys : List Arc) : ACall Tryd.prog 10 [.one (.ro (.arcs xs)), .one (.ro (.arcs ys))] [] (fun ov oh => ov = .one (.bool (decide (xs = ys))) ∧ oh = []) := by
 refine acall_intro hT Tryd.func10 rfl (by kernel_rfl) rfl (by kernel_rfl) ?_
 refine kq [] ⟨8, [(0, .one (.ro (.arcs xs))), (1, .one (.ro (.arcs ys)))], []⟩ hT (by kernel_rfl) trivial ?_
 refine awp_seq (awp_region ?_)
 refine ko 2 [] ⟨8, [(5, .one (.ro (.arcs xs))), (6, .one (.ro (.arcs ys)))], []⟩ hT (by kernel_rfl) (by kernel_rfl) trivial ?_
 refine aops_pure false ⟨true, [], 26, [.one (.ro (.arcs xs)), .one (.ro (.arcs ys))], []⟩ [.one (.ro (.arcs xs)), .one (.ro (.arcs ys))] (.one (.bool (decide (xs = ys)))) ⟨8, [(5, .one (.ro (.arcs xs))), (6, .one (.ro (.arcs ys))), (7, .one (.bool (decide (xs = ys))))], []⟩ (by kernel_rfl) (by kernel_rfl) (fun _ => trivial) rfl (fun _ => equal_arcs xs ys) ?_
 refine ko 1 [] ⟨8, [(4, .one (.bool (decide (xs = ys))))], []⟩ hT (by kernel_rfl) (by kernel_rfl) trivial ?_
 refine aops_end_seq (by kernel_rfl) ?_
 refine awp_ret ?_
 refine kRet.ret _ [] [] (.one (.bool (decide (xs = ys)))) [] (by kernel_rfl) trivial ?_
 exact ⟨rfl, rfl⟩
theorem same_net (n s t : Int) (es : List Arc) (m u v : Int) (fs : List Arc) : ACall Tryd.prog 6 [.agg (ZF1 n s t es), .agg (ZF1 m u v fs)] [] (fun ov oh => ov = .one (.bool (decide (n = m ∧ s = u ∧ t = v ∧ es = fs))) ∧ oh = []) := by
 refine acall_intro hT Tryd.func6 rfl (by kernel_rfl) rfl (by kernel_rfl) ?_
 refine kq [] ⟨31, [(2, .p 102), (3, .p 103)], [(102, .box 1 4 (ZF1 n s t es)), (103, .box 1 4 (ZF1 m u v fs))]⟩ hT (by kernel_rfl) trivial ?_
 refine awp_seq (awp_region ?_)
 refine ko 24 [(0 < 1), (0 < 1), (ZFT (decide (n = m))), (ZFL (decide (n = m))), (ZFT (decide (n = m))), (ZFL (decide (n = m))), (ZFT (decide (n = m))), (ZFT (decide (n = m))), (ZFG (decide (n = m))), (ZFT (ZFb0 n m s u)), (ZFL (ZFb0 n m s u)), (ZFT (ZFb0 n m s u)), (ZFL (ZFb0 n m s u)), (ZFT (ZFb0 n m s u)), (ZFT (ZFb0 n m s u)), (ZFG (ZFb0 n m s u)), (ZFT (((decide (n = m)) && (decide (s = u))) && (decide (t = v)))), (ZFL (((decide (n = m)) && (decide (s = u))) && (decide (t = v)))), (ZFT (((decide (n = m)) && (decide (s = u))) && (decide (t = v)))), (ZFL (((decide (n = m)) && (decide (s = u))) && (decide (t = v))))] ⟨31, [(24, .one (.bool (((decide (n = m)) && (decide (s = u))) && (decide (t = v))))), (26, .whn (((decide (n = m)) && (decide (s = u))) && (decide (t = v))) (.one (.ro (.arcs es)))), (28, .whn (((decide (n = m)) && (decide (s = u))) && (decide (t = v))) (.one (.ro (.arcs fs))))], []⟩ hT (by kernel_rfl) (by kernel_rfl) ⟨(by decide), (by decide), (fun _ h => h), (fun _ => by decide), (fun _ h => h), (fun _ => by decide), (fun _ h => h), (fun _ h => h), id, (fun _ h => h), (fun _ => by decide), (fun _ h => h), (fun _ => by decide), (fun _ h => h), (fun _ h => h), id, (fun _ h => h), (fun _ => by decide), (fun _ h => h), (fun _ => by decide), trivial⟩ ?_
 refine aops_pure false ⟨(((decide (n = m)) && (decide (s = u))) && (decide (t = v))), [(ZFG (((decide (n = m)) && (decide (s = u))) && (decide (t = v)))), (ZFG (((decide (n = m)) && (decide (s = u))) && (decide (t = v))))], 10, [.one (.ro (.arcs es)), .one (.ro (.arcs fs))], []⟩ [.one (.ro (.arcs es)), .one (.ro (.arcs fs))] (.one (.bool (decide (es = fs)))) ⟨31, [(24, .one (.bool (((decide (n = m)) && (decide (s = u))) && (decide (t = v))))), (26, .whn (((decide (n = m)) && (decide (s = u))) && (decide (t = v))) (.one (.ro (.arcs es)))), (28, .whn (((decide (n = m)) && (decide (s = u))) && (decide (t = v))) (.one (.ro (.arcs fs)))), (29, .whn (((decide (n = m)) && (decide (s = u))) && (decide (t = v))) (.one (.bool (decide (es = fs)))))], []⟩ (by kernel_rfl) (by kernel_rfl) (fun _ => ⟨id, id, trivial⟩) rfl (fun _ => same_arcs es fs) ?_
 refine ko 2 [(ZFG (((decide (n = m)) && (decide (s = u))) && (decide (t = v))))] ⟨31, [(4, .one (.bool ((((decide (n = m)) && (decide (s = u))) && (decide (t = v))) && (decide (es = fs)))))], []⟩ hT (by kernel_rfl) (by kernel_rfl) ⟨id, trivial⟩ ?_
 refine aops_end_seq (by kernel_rfl) ?_
 refine awp_ret ?_
 refine kRet.ret _ [] [] (.one (.bool ((((decide (n = m)) && (decide (s = u))) && (decide (t = v))) && (decide (es = fs))))) [] (by kernel_rfl) trivial ?_
 exact ⟨congrArg (fun x1 => (.one (.bool x1) : AV)) (show ((((decide (n = m)) && (decide (s = u))) && (decide (t = v))) && (decide (es = fs))) = (decide (n = m ∧ s = u ∧ t = v ∧ es = fs)) from by (simp only [Bool.decide_and, Bool.and_assoc])), rfl⟩
end Go.Ab
namespace Go.Ab
variable {l : List Int} {x : Int}
def rk (l : List Int) (x : Int) : Int := idxOf (fun y => decide (x = y)) l
theorem rk_at {i : Nat} (h : ∀ j, j < i → l.getD j 0 ≠ x) (hi : i < l.length) (hx : l.getD i 0 = x) : rk l x = i :=
 idxOf_at (d := 0) (fun j hj => decide_eq_false (fun q => h j hj q.symm)) hi (decide_eq_true hx.symm)
theorem rk_none (h : ∀ j, j < l.length → l.getD j 0 ≠ x) : rk l x = -1 :=
 idxOf_none (d := 0) (fun j hj => decide_eq_false (fun q => h j hj q.symm))
theorem rk_mem (h : x ∈ l) : ∃ i : Nat, rk l x = i ∧ i < l.length ∧ l.getD i 0 = x ∧ ∀ j, j < i → l.getD j 0 ≠ x := by
 induction l with
 | nil => cases h
 | cons y r ih =>
  by_cases q : y = x
  ·exact ⟨0, rk_at (fun j hj => by omega) (by simp) (by simpa using q), by simp, by simpa using q, fun j hj => by omega⟩
  ·have hr : x ∈ r := by
    rcases List.mem_cons.1 h with h | h
    ·exact absurd h.symm q
    ·exact h
   obtain ⟨i, h1, h2, h3, h4⟩ := ih hr
   have h5 : ∀ j, j < i + 1 → (y :: r).getD j 0 ≠ x := by
    intro j hj
    cases j with
    | zero => simpa using q
    | succ j => simpa using h4 j (by omega)
   exact ⟨i + 1, rk_at h5 (by simp; omega) (by simpa using h3), by simp; omega, by simpa using h3, h5⟩
theorem rk_in (h : x ∈ l) : 0 ≤ rk l x ∧ rk l x < l.length ∧ l.getD (rk l x).toNat 0 = x := by
 obtain ⟨i, h1, h2, h3, _⟩ := rk_mem h
 rw [h1]
 exact ⟨by omega, by omega, by simpa using h3⟩
theorem mem_rk : x ∈ l ↔ 0 ≤ rk l x := by
 constructor
 ·intro h; exact (rk_in h).1
 ·intro h
  rcases Classical.em (x ∈ l) with q | q
  ·exact q
  ·rw [rk_none (fun j hj e => q (by rw [← e]; exact getD_mem hj))] at h
   omega
structure Lists (a b : List (List Int)) : Prop where
 small : a.length ≤ 6
 len : b.length = a.length
 ra : ∀ i, i < a.length → isFull a.length (a.getD i [])
 rb : ∀ i, i < a.length → isFull a.length (b.getD i [])
def before (r : List Int) (x : Int) : List Int := r.take (rk r x).toNat
end Go.Ab
set_option maxRecDepth 100000
namespace Go.Ab
open Go Go.Proofs
abbrev ZG0 (a0 : List Int) := ((7, .i ((a0.length : Nat) : Int)) : Nat × AV)
abbrev ZG1 (a0 : List Int) := ((0, .one (.ro (.ints .i64 a0))) : Nat × AV)
theorem index_ints (l : List Int) (x : Int) : ACall Tryd.prog 50 [.one (.ro (.ints .i64 l)), .i x] [] (fun ov oh => ov = .i (rk l x) ∧ oh = []) := by
 refine acall_intro hT Tryd.func50 rfl (by kernel_rfl) rfl (by kernel_rfl) ?_
 refine awp_len 0 0 (.ints .i64 l) (by kernel_rfl) (fun hlen => ?_)
 simp only [C0.len, maxLen] at hlen
 refine kq [] ⟨19, [(ZG1 l), (1, .i x)], []⟩ hT (by kernel_rfl) trivial ?_
 refine awp_seq ?_
 refine kq [] ⟨19, [(ZG1 l), (1, .i x), (ZG0 l), (8, .i 0)], []⟩ hT (by kernel_rfl) trivial ?_
 refine awp_block ?_
 refine awp_loop (I := fun κ σ => ∃ (i : Nat), ((i ≤ l.length) ∧ (∀ j, j < i → l.getD j 0 ≠ x) ∧ l.length - i = κ) ∧ σ = ⟨19, [(ZG1 l), (1, .i x), (ZG0 l), (8, .i (i : Int))], []⟩) _ ⟨0, ⟨(by omega), (by intro j hj; omega), rfl⟩, (by kernel_rfl)⟩ ?_
 rintro κ _ ⟨i, ⟨hi, hp, rfl⟩, rfl⟩
 refine kq [] ⟨19, [(ZG1 l), (1, .i x), (ZG0 l), (8, .i (i : Int)), (9, .one (.bool (decide ((i : Int) < ((l.length : Nat) : Int)))))], []⟩ hT (by kernel_rfl) trivial ?_
 refine awp_seq ?_
 refine awp_cond (b := (decide ((i : Int) < ((l.length : Nat) : Int)))) (by kernel_rfl) (fun c2 => ?_) (fun c2 => ?_)
 ·
  try simp only [bs] at c2
  refine awp_skip ?_
  refine awp_seq ?_
  refine awp_block ?_
  refine kq [] ⟨19, [(ZG1 l), (1, .i x), (5, .i (i : Int)), (ZG0 l), (8, .i (i : Int))], []⟩ hT (by kernel_rfl) trivial ?_
  refine kq [((0 : Int) ≤ (i : Int)), ((i : Int) < ((l.length : Nat) : Int))] ⟨19, [(ZG1 l), (1, .i x), (5, .i (i : Int)), (ZG0 l), (8, .i (i : Int)), (16, .one (.bool (decide (x = (List.getD l i 0)))))], []⟩ hT (by kernel_rfl) ⟨(by omega), (by omega), trivial⟩ ?_
  refine awp_cond (b := (decide (x = (List.getD l i 0)))) (by kernel_rfl) (fun c4 => ?_) (fun c4 => ?_)
  ·
   try simp only [bs] at c4
   refine kq [] ⟨19, [(4, .i (i : Int))], []⟩ hT (by kernel_rfl) trivial ?_
   refine awp_ret ?_
   refine kRet.ret _ [] [] (.i (i : Int)) [] (by kernel_rfl) trivial ?_
   exact ⟨congrArg (fun x1 => (.i x1 : AV)) (show (i : Int) = (rk l x) from by first | exact (rk_at hp (by omega) c4.symm).symm | exact rk_at hp (by omega) c4.symm), rfl⟩
  ·
   try simp only [bs] at c4
   refine awp_skip ?_
   refine kr [(-9223372036854775808 ≤ (((i + 1) : Nat) : Int) ∧ (((i + 1) : Nat) : Int) ≤ 9223372036854775807)] ⟨19, [(ZG1 l), (1, .i x), (ZG0 l), (8, .i (((i + 1) : Nat) : Int))], []⟩ hT (by kernel_rfl) ⟨(by omega), trivial⟩ ?_
   refine loop_end _ ?_ ⟨(i + 1), ⟨(by omega), (by intro j hj; rcases Nat.lt_succ_iff_lt_or_eq.1 hj with h | h; exact hp j h; subst h; exact fun q => c4 q.symm), rfl⟩, (by kernel_rfl)⟩
   omega
 ·
  try simp only [bs] at c2
  refine awp_exit ?_
  refine kq [] ⟨19, [(4, .i (-1))], []⟩ hT (by kernel_rfl) trivial ?_
  refine awp_ret ?_
  refine kRet.ret _ [] [] (.i (-1)) [] (by kernel_rfl) trivial ?_
  exact ⟨congrArg (fun x1 => (.i x1 : AV)) (show (-1) = (rk l x) from by first | exact (rk_none (fun j hj => hp j (by omega))).symm | exact rk_none (fun j hj => hp j (by omega))), rfl⟩
theorem contains_ints (l : List Int) (x : Int) : ACall Tryd.prog 33 [.one (.ro (.ints .i64 l)), .i x] [] (fun ov oh => ov = .one (.bool (decide ((0 : Int) ≤ rk l x))) ∧ oh = []) := by
 refine acall_intro hT Tryd.func33 rfl (by kernel_rfl) rfl (by kernel_rfl) ?_
 refine kq [] ⟨9, [(ZG1 l), (1, .i x)], []⟩ hT (by kernel_rfl) trivial ?_
 refine awp_seq (awp_region ?_)
 refine ko 2 [] ⟨9, [(5, .one (.ro (.ints .i64 l))), (6, .i x)], []⟩ hT (by kernel_rfl) (by kernel_rfl) trivial ?_
 refine aops_pure false ⟨true, [], 50, [.one (.ro (.ints .i64 l)), .i x], []⟩ [.one (.ro (.ints .i64 l)), .i x] (.i (rk l x)) ⟨9, [(5, .one (.ro (.ints .i64 l))), (6, .i x), (7, .i (rk l x))], []⟩ (by kernel_rfl) (by kernel_rfl) (fun _ => trivial) rfl (fun _ => index_ints l x) ?_
 refine ko 2 [] ⟨9, [(4, .one (.bool (decide ((0 : Int) ≤ (rk l x)))))], []⟩ hT (by kernel_rfl) (by kernel_rfl) trivial ?_
 refine aops_end_seq (by kernel_rfl) ?_
 refine awp_ret ?_
 refine kRet.ret _ [] [] (.one (.bool (decide ((0 : Int) ≤ (rk l x))))) [] (by kernel_rfl) trivial ?_
 exact ⟨congrArg (fun x1 => (.one (.bool x1) : AV)) (show (decide ((0 : Int) ≤ (rk l x))) = (decide ((0 : Int) ≤ rk l x)) from by rfl), rfl⟩
end Go.Ab
namespace Go.Ab
open Go.MapKept
variable {p : Sta} {j k : Nat} {M : Mem} {kt t : TypeId} {l r : List Oper} {o : Oper} {c : Code}
def findE (k : ByteArray) : List (ByteArray × Sta) → Option Sta
 | [] => none
 | p :: r => cond (k == p.1) (some p.2) (findE k r)
def netV (p : Sta) : List V1 := [.int .i64 p.n, .int .i64 p.s, .int .i64 p.t, .ro (.arcs p.es)]
def isNetZ : List V1 → Bool
 | [.int .i64 0, .int .i64 0, .int .i64 0, .nils] => true
 | _ => false
theorem netV_at {v : V1} (h : (netV p)[j]? = some v) : j < 4 ∧ v = netCell p j := by
 match j, h with
 | 0, h => cases h; exact ⟨by omega, rfl⟩
 | 1, h => cases h; exact ⟨by omega, rfl⟩
 | 2, h => cases h; exact ⟨by omega, rfl⟩
 | 3, h => cases h; exact ⟨by omega, rfl⟩
 | j + 4, h => simp [netV] at h
theorem netCell_VR {u : Value} (h : VF M (netCell p j) u) : VR M (netCell p j) u := by
 unfold netCell at h ⊢
 split at h <;> exact h
theorem netCell_VF {u : Value} (h : VR M (netCell p j) u) : VF M (netCell p j) u := by
 unfold netCell at h ⊢
 split at h <;> exact h
theorem cells_net {cs : Array Value} (h1 : cs.size = 4) (h2 : ∀ j, j < 4 → ∃ u, cs[j]? = some u ∧ VF M (netCell p j) u) : CellsR M (netV p) cs := by
 refine ⟨h1, fun j v hj => ?_⟩
 obtain ⟨j4, rfl⟩ := netV_at hj
 obtain ⟨u, hu, hv⟩ := h2 j j4
 exact ⟨u, hu, netCell_VR hv⟩
theorem net_cells {cs : Array Value} (h : CellsR M (netV p) cs) : cs.size = 4 ∧ ∀ j, j < 4 → ∃ u, cs[j]? = some u ∧ VF M (netCell p j) u := by
 refine ⟨h.1, fun j hj => ?_⟩
 have e : (netV p)[j]? = some (netCell p j) := by
  match j, hj with
  | 0, _ => rfl
  | 1, _ => rfl
  | 2, _ => rfl
  | 3, _ => rfl
 obtain ⟨u, hu, hv⟩ := h.2 j _ e
 exact ⟨u, hu, netCell_VF hv⟩
def EntsR (M : Mem) : Nat → List (ByteArray × Sta) → List MapEntry → Prop
 | _, [], [] => True
 | i, x :: l, e :: es => EntR M i x e ∧ EntsR M (i + 1) l es
 | _, _, _ => False
theorem ents_of : ∀ {l : List (ByteArray × Sta)} {es : List MapEntry} {i : Nat}, es.length = l.length → (∀ j x, l[j]? = some x → ∃ e, es[j]? = some e ∧ EntR M (i + j) x e) → EntsR M i l es
 | [], [], _, _, _ => trivial
 | [], _ :: _, _, h, _ => by simp at h
 | _ :: _, [], _, h, _ => by simp at h
 | x :: l, e :: es, i, h, hh => by
  refine ⟨?_, ents_of (by simpa using h) fun j y hy => ?_⟩
  ·obtain ⟨e', he, hr⟩ := hh 0 x rfl
   cases he
   exact hr
  ·obtain ⟨e', he, hr⟩ := hh (j + 1) y (by simpa using hy)
   exact ⟨e', by simpa using he, by rw [show i + 1 + j = i + (j + 1) by omega]; exact hr⟩
theorem findNow_ents (k : ByteArray) : ∀ {l : List (ByteArray × Sta)} {es : List MapEntry} {i : Nat} (j : Nat), EntsR M i l es →
  (findE k l = none ∧ Instr.findNow .string (.string k) es j = some none) ∨ ∃ (p : Sta) (cs : Array Value) (j' : Nat), findE k l = some p ∧ Instr.findNow .string (.string k) es j = some (some (j', .agg cs)) ∧ CellsR M (netV p) cs
 | [], [], _, j, _ => .inl ⟨rfl, rfl⟩
 | [], _ :: _, _, _, h => h.elim
 | _ :: _, [], _, _, h => h.elim
 | x :: l, e :: es, i, j, ⟨⟨h1, h2, cs, h3, h4, h5⟩, hr⟩ => by
  simp only [Instr.findNow, h2, Instr.sameNow, findE]
  cases hb : (k == x.1)
  ·simp only [cond_false]
   exact findNow_ents k (j + 1) hr
  ·simp only [cond_true]
   exact .inr ⟨x.2, cs, j, rfl, by rw [h3], cells_net h4 h5⟩
section
variable {P : Program} {T : Nat → Option TI} {K : Post} {s s' : St}
theorem checkKey_run (hkt : P.underlying kt = some .string) (k : ByteArray) (e : Bool) (w : World) : (Instr.checkKey e 10000 kt (.string k)).run P w = .ok () w := by
 show (Instr.checkKey e (9999 + 1) kt (.string k)).run P w = _
 unfold Instr.checkKey
 simp only [Sem.run_bind, run_underlying hkt, Result.andThen, Sem.run_pure]
theorem net_zero {i : TI} (h : TF P t i) (hz : isNetZ i.zero = true) (hag : i.kind = .struct) (w : World) : ∃ cs : Array Value, (zeroValue t).run P w = .ok (.agg cs) w ∧ CellsR M (netV default) cs := by
 obtain ⟨z, h1, h2, h3, h4⟩ := zero_cells (M := M) h w
 have h5 : i.zero = [.int .i64 0, .int .i64 0, .int .i64 0, .nils] := by
  revert hz
  unfold isNetZ
  split
  ·intro _; assumption
  ·intro hh; cases hh
 rw [h5] at h4
 have hsz : z.cells.size = 4 := h4.1
 have hcs : ∃ cs, z = .agg cs := by
  cases z <;> first | exact ⟨_, rfl⟩ | (simp [Value.cells] at hsz)
 obtain ⟨cs, rfl⟩ := hcs
 have hc : (Value.agg cs).cells = cs := rfl
 rw [hc] at h4
 refine ⟨cs, h1, h4.1, fun j v hj => ?_⟩
 obtain ⟨j4, rfl⟩ := netV_at hj
 match j, j4 with
 | 0, _ => obtain ⟨u, q1, q2⟩ := h4.2 0 _ rfl; exact ⟨u, q1, q2⟩
 | 1, _ => obtain ⟨u, q1, q2⟩ := h4.2 1 _ rfl; exact ⟨u, q1, q2⟩
 | 2, _ => obtain ⟨u, q1, q2⟩ := h4.2 2 _ rfl; exact ⟨u, q1, q2⟩
 | 3, _ => obtain ⟨u, q1, q2⟩ := h4.2 3 _ rfl; exact ⟨u, q1, roSl_nil (C := fun i j u => VB ((C0.arcs []).cell i j) u) q2⟩
theorem aops_lookup {x ix : Operand} {d : Nat} {L : List (ByteArray × Sta)} {key : ByteArray} {et : TypeId} {ie : TI} (hT : ∀ t i, T t = some i → TF P t i) (hl : l.drop k = o :: r) (ho : o.op = .lookup t x ix true) (hd : o.dst = some d) (hg : o.guard = none) (hlt : Nat.ble (d + 1) s.n = true)
  (hm : P.underlying t = some (.map kt et)) (hkt : P.underlying kt = some .string) (het : T et = some ie) (hz : isNetZ ie.zero = true) (hag : ie.kind = .struct) (hx : s.raw x = some (.one (.dm L))) (hi : s.raw ix = some (.one (.str key)))
  (hk : AOps P l (k + 1) K ⟨s.n, ins d (.tup [(true, netV ((findE key L).getD default)), (false, [.bool (findE key L).isSome])]) s.tm, s.hp⟩) : AOps P l k K s := ⟨fun M0 M a he hr => by
 have hd0 := drop_next hl
 rw [hl]
 unfold wpList
 rw [if_pos (by simp [Region.wanted, hg])]
 refine .inl ?_
 obtain ⟨b, hxv, _, es, hb, hes, hent⟩ : VM M (.dm L) (a.eval x) := raw_sound hr hx
 have hiv : a.eval ix = .string key := VR_str (raw_sound hr hi)
 have hE : EntsR M 0 L es.toList := ents_of (by rw [Array.length_toList]; exact hes) fun j y hy => by
  obtain ⟨e, q1, q2⟩ := hent j y hy
  exact ⟨e, by rw [Array.getElem?_toList]; exact q1, by rw [Nat.zero_add]; exact q2⟩
 have hrun : ∃ cs : Array Value, (execOp a.eval o).run P M.w = .ok (.value (.tuple #[.agg cs, .bool (findE key L).isSome])) M.w ∧ CellsR M (netV ((findE key L).getD default)) cs := by
  rcases findNow_ents key 0 hE with ⟨h1, h2⟩ | ⟨p, cs, j, h1, h2, h3⟩
  ·obtain ⟨cs, hzr, hcs⟩ := net_zero (M := M) (hT _ _ het) hz hag M.w
   refine ⟨cs, ?_, by rw [h1]; exact hcs⟩
   rw [h1]
   simp [execOp, ho, hxv, hiv, Instr.lookup, run_underlying hm, MapKept.run_getObj_map hb, checkKey_run hkt, MapKept.run_findKey hkt h2, hzr]
  ·refine ⟨cs, ?_, by rw [h1]; exact h3⟩
   rw [h1]
   simp [execOp, ho, hxv, hiv, Instr.lookup, run_underlying hm, MapKept.run_getObj_map hb, checkKey_run hkt, MapKept.run_findKey hkt h2]
 obtain ⟨cs, hrun, hcs⟩ := hrun
 unfold Oper.wp
 rw [hrun]
 have hput : putD o.dst (.tup [(true, netV ((findE key L).getD default)), (false, [.bool (findE key L).isSome])]) s.n s.tm = some (ins d (.tup [(true, netV ((findE key L).getD default)), (false, [.bool (findE key L).isSome])]) s.tm) := by
  rw [hd]; simp only [putD, hlt, cond_true]
 have hr2 := hr.put (dst := o.dst) (u := .tuple #[.agg cs, .bool (findE key L).isSome]) hput ⟨[.agg cs, .bool (findE key L).isSome], rfl, rfl, fun i e hi => by
  match i, hi with
  | 0, hi => cases hi; exact ⟨_, rfl, cs, rfl, hcs⟩
  | 1, hi => cases hi; exact ⟨_, rfl, rfl⟩
  | i + 2, hi => simp at hi⟩
 have hgo := hk.run M0 M _ he hr2
 rw [hd0] at hgo
 exact hgo⟩
theorem aops_maplen_g {c : Call} {x : Operand} {d : Nat} {g : Bool} {L : List (ByteArray × Sta)} {et : TypeId} (hl : l.drop k = o :: r) (ho : o.op = .call c) (hc : c.callee = .builtin .len) (ha : c.args = #[x]) (hat : c.argTypes = #[t]) (hd : o.dst = some d) (hgo : guardOf l.toArray s o.guard = some g) (hlt : Nat.ble (d + 1) s.n = true)
  (hm : P.underlying t = some (.map kt et)) (hx : s.raw x = some (.whn g (.one (.dm L))))
  (hk : AOps P l (k + 1) K ⟨s.n, ins d (.whn g (.one (.int .i64 (L.length : Int)))) s.tm, s.hp⟩) : AOps P l k K s := ⟨fun M0 M a he hr => by
 have hd0 := drop_next hl
 have hw := guard_sound hr hgo
 have hput : putD o.dst (.whn g (.one (.int .i64 (L.length : Int)))) s.n s.tm = some (ins d (.whn g (.one (.int .i64 (L.length : Int)))) s.tm) := by
  rw [hd]; simp only [putD, hlt, cond_true]
 rw [hl]
 unfold wpList
 cases hgb : g
 ·rw [if_neg (by rw [hw, hgb]; decide)]
  rw [← hd0]
  refine hk.run M0 M _ he (hr.put (dst := o.dst) (u := undef) hput ⟨fun h => ?_, fun _ => rfl⟩)
  rw [hgb] at h; cases h
 ·rw [if_pos (by rw [hw, hgb])]
  refine .inl ?_
  have hxr := (raw_sound hr hx).1 hgb
  obtain ⟨b, hxv, _, es, hb, hes, hent⟩ : VM M (.dm L) (a.eval x) := hxr
  have hrun : (execOp a.eval o).run P M.w = .ok (.value (.int .i64 (L.length : Int))) M.w := by
   obtain ⟨ce, ca, ct⟩ := c
   simp only at hc ha hat
   subst hc ha hat
   simp only [execOp, ho, resolve, Sem.run_bind, Sem.run_pure, Result.andThen_ok, invoke, builtin, List.map_toArray, List.map_cons, List.map_nil, hxv]
   simp [Builtin.len_, run_underlying hm, MapKept.run_getObj_map hb, hes, goInt]
  unfold Oper.wp
  rw [hrun]
  have hr2 := hr.put (dst := o.dst) (u := .int .i64 (L.length : Int)) hput ⟨fun _ => rfl, fun h => by rw [hgb] at h; cases h⟩
  have hgo := hk.run M0 M _ he hr2
  rw [hd0] at hgo
  exact hgo⟩
end
structure Gh where
 own : Option (Nat × List (ByteArray × Sta))
 it : Option (Nat × List (ByteArray × Sta) × List Nat)
def OwnAt (M0 M : Mem) : Option (Nat × List (ByteArray × Sta)) → Prop
 | none => True
 | some (b, l) => M0.w.heap.size ≤ b ∧ M.dict l b ∧ ¬ M.live b ∧ ¬ M.free b
def ItAt (M0 M : Mem) : Option (Nat × List (ByteArray × Sta) × List Nat) → Prop
 | none => True
 | some (r, l, seen) => M0.w.heap.size ≤ r ∧ (∃ m : Nat, M.w.heap[r]? = some (Go.Obj.mapIter (some m) l.length seen.toArray l.length) ∧ (M.free m ∧ ¬ M.live m) ∧ M.dict l m) ∧ ¬ M.live r ∧ ¬ M.free r
def GAt (M0 M : Mem) (g : Gh) : Prop := OwnAt M0 M g.own ∧ ItAt M0 M g.it
theorem dict_lt {l : List (ByteArray × Sta)} {b : Nat} (h : M.dict l b) : b < M.w.heap.size := by
 obtain ⟨es, h1, _⟩ := h
 exact (Array.getElem?_eq_some_iff.1 h1).1
theorem GAt.ext {X : Nat → Bool} {M0 M' : Mem} {g : Gh} (h : GAt M0 M g) (he : Ext X M M') : GAt M0 M' g := by
 obtain ⟨own, it⟩ := g
 refine ⟨?_, ?_⟩
 ·cases own with
  | none => trivial
  | some p =>
   obtain ⟨h1, h2, h3, h4⟩ := h.1
   have hb := dict_lt h2
   refine ⟨h1, dict_keep he.toKeep h3 h2, (he.still _ hb h3).2, fun q => ?_⟩
   rcases he.only _ q with q | q | q
   ·exact h4 q
   ·exact h3 q
   ·omega
 ·cases it with
  | none => trivial
  | some p =>
   obtain ⟨h1, ⟨m, h2, ⟨h5, h6⟩, h7⟩, h3, h4⟩ := h.2
   have hr : p.1 < M.w.heap.size := (Array.getElem?_eq_some_iff.1 h2).1
   have hm := dict_lt h7
   refine ⟨h1, ⟨m, (he.still _ hr h3).1.trans h2, ⟨he.free_ _ h5, (he.still _ hm h6).2⟩, dict_keep he.toKeep h6 h7⟩, (he.still _ hr h3).2, fun q => ?_⟩
   rcases he.only _ q with q | q | q
   ·exact h4 q
   ·exact h3 q
   ·omega
abbrev GPost := Exit → Gh → St → Prop
def Qg (K : GPost) (M0 : Mem) : Exit → Act → World → Prop := fun e a w => ∃ D s M', K e D s ∧ Rel M' s a ∧ M'.w = w ∧ Ext big M0 M' ∧ GAt M0 M' D
structure GWp (P : Program) (c : Code) (K : GPost) (D : Gh) (s : St) : Prop where
 run : ∀ M0 M a, Ext big M0 M → GAt M0 M D → Rel M s a → c.wp P (Qg K M0) a M.w
structure GOps (P : Program) (l : List Oper) (k : Nat) (K : GPost) (D : Gh) (s : St) : Prop where
 run : ∀ M0 M a, Ext big M0 M → GAt M0 M D → Rel M s a → wpList P l.toArray (Qg K M0) (l.drop k) a M.w
def gSeq (N : Gh → St → Prop) (K : GPost) : GPost
 | .normal, D, s => N D s
 | .exit i, D, s => K (.exit i) D s
 | .goto l, D, s => K (.goto l) D s
 | .ret, D, s => K .ret D s
 | .panic c, D, s => K (.panic c) D s
 | .outgrown, D, s => K .outgrown D s
def gBlk (id : Nat) (K : GPost) : GPost
 | .normal, D, s => K .normal D s
 | .exit i, D, s => cond (Nat.beq i id) (K .normal D s) (K (.exit i) D s)
 | .goto l, D, s => K (.goto l) D s
 | .ret, D, s => K .ret D s
 | .panic c, D, s => K (.panic c) D s
 | .outgrown, D, s => K .outgrown D s
structure GLoopEnd (I : Nat → Gh → St → Prop) (n : Nat) (D : Gh) (s : St) : Prop where
 run : ∃ m, m < n ∧ I m D s
theorem gloop_end {I : Nat → Gh → St → Prop} {n : Nat} {D : Gh} {s : St} (m : Nat) (h : m < n) (hI : I m D s) : GLoopEnd I n D s := ⟨m, h, hI⟩
section
variable {P : Program} {T : Nat → Option TI} {K : GPost} {D : Gh} {s s' : St}
theorem gwp_start {K : Post} (h : GWp P c (fun e _ s => K e s) ⟨none, none⟩ s) : AWp P c K s := ⟨fun M0 M a he hr =>
 wp_mono (h.run M0 M a he ⟨trivial, trivial⟩ hr) fun _e _a _w ⟨_, s', M', h1, h2, h3, h4, _⟩ => ⟨s', M', h1, h2, h3, h4⟩⟩
theorem gwp_lift (h : AWp P c (fun e s' => K e D s') s) : GWp P c K D s := ⟨fun _M0 M a he hd hr =>
 wp_mono (h.run M M a (Ext.refl _ _) hr) fun _e _a _w ⟨s', M', h1, h2, h3, h4⟩ => ⟨D, s', M', h1, h2, h3, he.trans h4, hd.ext h4⟩⟩
theorem gwp_seq {x y : Code} (h : GWp P x (gSeq (fun D s => GWp P y K D s) K) D s) : GWp P (.seq x y) K D s := ⟨fun M0 M a he hd hr =>
 wp_seq (wp_mono (h.run M0 M a he hd hr) fun e a w hq => by
  obtain ⟨D1, s1, M1, h1, h2, h3, h4, h5⟩ := hq
  cases e with
  | normal => subst h3; exact h1.run M0 M1 a h4 h5 h2
  | exit i => exact ⟨D1, s1, M1, h1, h2, h3, h4, h5⟩
  | goto i => exact ⟨D1, s1, M1, h1, h2, h3, h4, h5⟩
  | ret => exact ⟨D1, s1, M1, h1, h2, h3, h4, h5⟩
  | panic i => exact ⟨D1, s1, M1, h1, h2, h3, h4, h5⟩
  | outgrown => exact ⟨D1, s1, M1, h1, h2, h3, h4, h5⟩)⟩
theorem gwp_seq_lift {x y : Code} (h : AWp P x (kSeq (fun s' => GWp P y K D s') (fun e s' => K e D s')) s) : GWp P (.seq x y) K D s :=
 gwp_seq (gwp_lift (awp_mono h fun e _ h => by cases e <;> exact h))
theorem gwp_block {id : Nat} (h : GWp P c (gBlk id K) D s) : GWp P (.block id c) K D s := ⟨fun M0 M a he hd hr =>
 wp_block (wp_mono (h.run M0 M a he hd hr) fun e a w hq => by
  obtain ⟨D1, s1, M1, h1, h2, h3, h4, h5⟩ := hq
  cases e with
  | normal => exact ⟨D1, s1, M1, h1, h2, h3, h4, h5⟩
  | exit i =>
   simp only [gBlk] at h1
   by_cases hi : i = id
   ·subst hi
    rw [beq_self] at h1
    simp only [Exit.inBlock, if_true]
    exact ⟨D1, s1, M1, h1, h2, h3, h4, h5⟩
   ·rw [beq_ne hi] at h1
    simp only [Exit.inBlock, if_neg hi]
    exact ⟨D1, s1, M1, h1, h2, h3, h4, h5⟩
  | goto i => exact ⟨D1, s1, M1, h1, h2, h3, h4, h5⟩
  | ret => exact ⟨D1, s1, M1, h1, h2, h3, h4, h5⟩
  | panic i => exact ⟨D1, s1, M1, h1, h2, h3, h4, h5⟩
  | outgrown => exact ⟨D1, s1, M1, h1, h2, h3, h4, h5⟩)⟩
theorem gwp_loop (I : Nat → Gh → St → Prop) (n : Nat) (h0 : I n D s) (round : ∀ n D s, I n D s → GWp P c (gSeq (GLoopEnd I n) K) D s) : GWp P (.loop c) K D s := ⟨fun M0 M a he hd hr => by
 refine wp_loop_ghost (fun n a w => ∃ D s M', I n D s ∧ Rel M' s a ∧ M'.w = w ∧ Ext big M0 M' ∧ GAt M0 M' D) n ⟨D, s, M, h0, hr, rfl, he, hd⟩ fun n a w ⟨D1, s1, M1, h1, h2, h3, h4, h5⟩ => ?_
 subst h3
 refine wp_mono ((round n D1 s1 h1).run M0 M1 a h4 h5 h2) fun e a w hq => ?_
 obtain ⟨D2, s2, M2, k1, k2, k3, k4, k5⟩ := hq
 cases e with
 | normal =>
  obtain ⟨m, hm, hI⟩ := k1.run
  exact ⟨m, hm, D2, s2, M2, hI, k2, k3, k4, k5⟩
 | exit i => exact ⟨D2, s2, M2, k1, k2, k3, k4, k5⟩
 | goto i => exact ⟨D2, s2, M2, k1, k2, k3, k4, k5⟩
 | ret => exact ⟨D2, s2, M2, k1, k2, k3, k4, k5⟩
 | panic i => exact ⟨D2, s2, M2, k1, k2, k3, k4, k5⟩
 | outgrown => exact ⟨D2, s2, M2, k1, k2, k3, k4, k5⟩⟩
theorem gwp_weak (h : AWk s s') (k : GWp P c K D s') : GWp P c K D s := ⟨fun M0 M a he hd hr => by
 obtain ⟨M', h1, w1, e1⟩ := h M a hr
 rw [← w1]
 exact k.run M0 M' a (he.trans e1) (hd.ext e1) h1⟩
theorem gops_weak (h : AWk s s') (hk : GOps P l k K D s') : GOps P l k K D s := ⟨fun M0 M a he hd hr => by
 obtain ⟨M', h1, w1, e1⟩ := h M a hr
 rw [← w1]
 exact hk.run M0 M' a (he.trans e1) (hd.ext e1) h1⟩
theorem gops_cut (ks hs : List Nat) (s' : St) (h : cutS ks hs s = s') (hk : GOps P l k K D s') : GOps P l k K D s := by
 subst h; exact gops_weak (awk_cut ks hs s) hk
theorem gwp_cut (ks hs : List Nat) (s' : St) (h : cutS ks hs s = s') (hk : GWp P c K D s') : GWp P c K D s := by
 subst h; exact gwp_weak (awk_cut ks hs s) hk
theorem gwp_region {id : Nat} (h : GOps P l 0 K D s) : GWp P (.region id l.toArray false) K D s := ⟨fun M0 M a he hd hr => wp_region_lit (h.run M0 M a he hd hr)⟩
theorem gops_end (hk : l.drop k = []) (h : K .normal D s) : GOps P l k K D s := ⟨fun M0 M a he hd hr => by
 rw [hk]
 exact wpList_nil ⟨D, s, M, h, hr, rfl, he, hd⟩⟩
theorem drop_next_g (hl : l.drop k = o :: r) : l.drop (k + 1) = r := by
 have h1 : (l.drop k).drop 1 = r := by rw [hl]; rfl
 rwa [List.drop_drop] at h1
theorem gops_step {cs : List Prop} (hT : ∀ t i, T t = some i → TF P t i) (hl : l.drop k = o :: r) (h : stepOp T l.toArray s o = some (cs, s')) (hc : AllP cs) (hk : GOps P l (k + 1) K D s') : GOps P l k K D s := ⟨fun M0 M a he hd0 hr => by
 have hd := drop_next_g hl
 rw [hl]
 unfold wpList
 rcases stepOp_sound (P := P) hT h hc hr with ⟨hw, hr'⟩ | ⟨hw, n, M', u, hrun, hext, hr', hn⟩
 ·rw [if_neg (by rw [hw]; decide)]
  rw [← hd]
  exact hk.run M0 M _ he hd0 hr'
 ·rw [if_pos hw]
  refine .inl ?_
  have hgo := hk.run M0 M' _ (he.trans hext) (hd0.ext hext) hr'
  rw [hd] at hgo
  unfold Oper.wp
  rw [hrun]
  rcases hn with rfl | ⟨rfl, rfl⟩
  ·exact hgo
  ·exact hgo⟩
theorem gops_ops (hT : ∀ t i, T t = some i → TF P t i) (seg : List Oper) : ∀ (k : Nat) (s : St) (cs : List Prop), l.drop k = seg ++ l.drop (k + seg.length) → runOps T l.toArray seg s = some (cs, s') → AllP cs → GOps P l (k + seg.length) K D s' → GOps P l k K D s := by
 induction seg with
 | nil =>
  intro k s cs _ h _ hk
  simp only [runOps, Option.some.injEq, Prod.mk.injEq] at h
  obtain ⟨rfl, rfl⟩ := h
  exact hk
 | cons o seg ih =>
  intro k s cs hl h hc hk
  unfold runOps at h
  split at h
  ·rename_i cs1 s1 h1
   split at h
   ·rename_i cs2 s2 h2
    simp only [Option.some.injEq, Prod.mk.injEq] at h
    obtain ⟨rfl, rfl⟩ := h
    obtain ⟨c1, c2⟩ := AllP_append.1 hc
    have e1 : k + (o :: seg).length = k + 1 + seg.length := by simp only [List.length_cons]; omega
    rw [e1] at hl hk
    refine gops_step hT hl h1 c1 (ih (k + 1) s1 cs2 ?_ h2 c2 hk)
    have h3 : (l.drop k).drop 1 = seg ++ l.drop (k + 1 + seg.length) := by rw [hl]; rfl
    rwa [List.drop_drop] at h3
   ·cases h
  ·cases h
theorem gops_run (m : Nat) (ks hs : List Nat) (cs : List Prop) (s' : St) (hT : ∀ t i, T t = some i → TF P t i) (hle : Nat.ble (k + m) l.length = true) (h : runCut T l k m ks hs s = some (cs, s')) (hc : AllP cs) (hk : GOps P l (k + m) K D s') : GOps P l k K D s := by
 unfold runCut at h
 split at h
 ·rename_i cs1 s1 h1
  simp only [Option.some.injEq, Prod.mk.injEq] at h
  obtain ⟨rfl, rfl⟩ := h
  have hle := Nat.le_of_ble_eq_true hle
  have hlen : ((l.drop k).take m).length = m := by rw [List.length_take, List.length_drop]; omega
  refine gops_ops hT ((l.drop k).take m) k s cs1 ?_ h1 hc ?_
  ·rw [hlen, ← List.drop_drop, List.take_append_drop]
  ·rw [hlen]
   exact gops_weak (awk_cut ks hs s1) (by assumption)
 ·cases h
end
end Go.Ab
namespace Go.Ab
open Go.MapKept
variable {l r : List Oper} {b d k : Nat} {o : Oper} {M : Mem} {L : List (ByteArray × Sta)}
section
variable {P : Program} {T : Nat → Option TI} {K : GPost} {D : Gh} {s : St}
theorem gops_val (hl : l.drop k = o :: r) (hg : o.guard = none)
  (h : ∀ M0 M a, Ext big M0 M → GAt M0 M D → Rel M s a → ∃ (u : Value) (M' : Mem) (D' : Gh) (s' : St), (execOp a.eval o).run P M.w = .ok (.value u) M'.w ∧ Ext big M0 M' ∧ GAt M0 M' D' ∧ Rel M' s' (a.put o.dst u) ∧ GOps P l (k + 1) K D' s') : GOps P l k K D s := ⟨fun M0 M a he hd hr => by
 obtain ⟨u, M', D', s', h1, h2, h3, h4, h5⟩ := h M0 M a he hd hr
 have hd0 := drop_next_g hl
 rw [hl]
 unfold wpList
 rw [if_pos (by simp [Region.wanted, hg])]
 refine .inl ?_
 unfold Oper.wp
 rw [h1]
 have hgo := h5.run M0 M' _ h2 h3 h4
 rw [hd0] at hgo
 exact hgo⟩
theorem gops_skip (hl : l.drop k = o :: r) (hg : o.guard = none)
  (h : ∀ M0 M a, Ext big M0 M → GAt M0 M D → Rel M s a → ∃ (M' : Mem) (D' : Gh) (s' : St), (execOp a.eval o).run P M.w = .ok .skip M'.w ∧ Ext big M0 M' ∧ GAt M0 M' D' ∧ Rel M' s' (a.put o.dst undef) ∧ GOps P l (k + 1) K D' s') : GOps P l k K D s := ⟨fun M0 M a he hd hr => by
 obtain ⟨M', D', s', h1, h2, h3, h4, h5⟩ := h M0 M a he hd hr
 have hd0 := drop_next_g hl
 rw [hl]
 unfold wpList
 rw [if_pos (by simp [Region.wanted, hg])]
 refine .inl ?_
 unfold Oper.wp
 rw [h1]
 have hgo := h5.run M0 M' _ h2 h3 h4
 rw [hd0] at hgo
 exact hgo⟩
theorem putD_g {dst : Option Nat} {n : Nat} {v : AV} {tm : List (Nat × AV)} (hd : dst = some d) (hlt : Nat.ble (d + 1) n = true) : putD dst v n tm = some (ins d v tm) := by
 rw [hd]; simp only [putD, hlt, cond_true]
theorem dict_same {M' : Mem} (h : Same M M') {l : List (ByteArray × Sta)} {m : Nat} (hf : M.free m) (hd : M.dict l m) : M'.dict l m := by
 obtain ⟨es, h1, h2, h3⟩ := hd
 refine ⟨es, h.maps m es _ hf h1, h2, fun i x hx => ?_⟩
 obtain ⟨e, q1, q2, q3, cs, q4, q5, q6⟩ := h3 i x hx
 exact ⟨e, q1, q2, q3, cs, q4, q5, fun j hj => (q6 j hj).imp fun u hu => ⟨hu.1, h.VF hu.2⟩⟩
theorem gops_newmap {t : TypeId} {it} (hl : l.drop k = o :: r) (ho : o.op = .makeMap t none) (hd : o.dst = some d) (hg : o.guard = none) (hlt : Nat.ble (d + 1) s.n = true)
  (hk : ∀ b, GOps P l (k + 1) K ⟨some (b, []), it⟩ ⟨s.n, ins d (.one (.mapv b)) s.tm, s.hp⟩) : GOps P l k K ⟨none, it⟩ s := gops_val hl hg fun M0 M a he hgt hr => by
 have hrun : (execOp a.eval o).run P M.w = .ok (.value (.map (some M.w.heap.size))) (M.w.alloc (.map #[] 0)) := by
  simp only [execOp, ho, Instr.makeMap, Option.map_none, Sem.run_bind, Sem.run_pure, run_newObj, Result.andThen_ok]; rfl
 have hnew : ∀ q, q < M.w.heap.size → (M.w.alloc (.map #[] 0)).heap[q]? = M.w.heap[q]? := fun q hq => heap_alloc_old M.w _ hq
 have hext := world_ext (M := M) (w' := M.w.alloc (.map #[] 0)) rfl rfl rfl (Nat.le_refl _) (by simp) hnew
 have hok := world_ok hr.ok hext (by simp) hnew
 have hr1 := hr.step0 (M' := ⟨M.μ, M.H, M.w.alloc (.map #[] 0), M.free⟩) (hp := s.hp) hr.hp hok hext
 refine ⟨_, ⟨M.μ, M.H, M.w.alloc (.map #[] 0), M.free⟩, ⟨some (M.w.heap.size, []), it⟩, _, hrun, he.trans (hext.mono fun x hx => by cases hx), ⟨⟨he.size, ⟨#[], heap_alloc_new M.w _, rfl, fun i x hx => by simp at hx⟩, fun hlv => ?_, fun hf => ?_⟩, (hgt.ext hext).2⟩, hr1.put (dst := o.dst) (v := .one (.mapv M.w.heap.size)) (u := .map (some M.w.heap.size)) (putD_g hd hlt) rfl, hk _⟩
 ·have := live_lt hr.ok (b := M.w.heap.size) hlv; omega
 ·have := (hr.ok.fr _ hf).1; omega
theorem findNow_none {k : ByteArray} {l : List (ByteArray × Sta)} {es : List MapEntry} {i : Nat} (j : Nat) (h : EntsR M i l es) (hn : findE k l = none) : Instr.findNow .string (.string k) es j = some none := by
 rcases findNow_ents k j h with ⟨_, h2⟩ | ⟨p, cs, j', h1, _⟩
 ·exact h2
 ·rw [hn] at h1; cases h1
theorem dict_ents {es : Array MapEntry} (hes : es.size = L.length) (hent : ∀ i x, L[i]? = some x → ∃ e, es[i]? = some e ∧ EntR M i x e) : EntsR M 0 L es.toList :=
 ents_of (by rw [Array.length_toList]; exact hes) fun j y hy => by
  obtain ⟨e, q1, q2⟩ := hent j y hy
  exact ⟨e, by rw [Array.getElem?_toList]; exact q1, by rw [Nat.zero_add]; exact q2⟩
theorem gops_insert {t : TypeId} {x ix vx : Operand} {key : ByteArray} {p : Sta} {kt et : TypeId} {it} (hl : l.drop k = o :: r) (ho : o.op = .mapUpdate t x ix vx ∨ o.op = .insert t x ix vx) (hd : o.dst = none) (hg : o.guard = none)
  (hm : P.underlying t = some (.map kt et)) (hkt : P.underlying kt = some .string) (hx : s.raw x = some (.one (.mapv b))) (hi : s.raw ix = some (.one (.str key))) (hv : s.raw vx = some (.agg (netV p))) (hnew : findE key L = none)
  (hk : GOps P l (k + 1) K ⟨some (b, L ++ [(key, p)]), it⟩ s) : GOps P l k K ⟨some (b, L), it⟩ s := gops_skip hl hg fun M0 M a he hgt hr => by
 obtain ⟨⟨hb0, ⟨es, hb, hes, hent⟩, hlv, hfr⟩, hit⟩ := hgt
 have hxv : a.eval x = .map (some b) := raw_sound hr hx
 have hiv : a.eval ix = .string key := VR_str (raw_sound hr hi)
 obtain ⟨cs, hvv, hcs⟩ : ∃ cs, a.eval vx = .agg cs ∧ CellsR M (netV p) cs := raw_sound hr hv
 have hj := findNow_none 0 (dict_ents hes hent) hnew
 let o' : Go.Obj := .map (es.push { key := .string key, val := .agg cs, born := L.length }) (L.length + 1)
 have hrun : (execOp a.eval o).run P M.w = .ok .skip { M.w with heap := M.w.heap.setIfInBounds b o' } := by
  rcases ho with ho | ho <;>
   simp [execOp, ho, hxv, hiv, hvv, Instr.mapUpdate, run_underlying hm, MapKept.run_getObj_map hb, checkKey_run hkt, MapKept.run_findKey hkt hj, MapKept.run_setObj_map _ hb, o']
 have hset := MapKept.heap_set (o' := o') hb
 let M' : Mem := ⟨M.μ, M.H, { M.w with heap := M.w.heap.setIfInBounds b o' }, M.free⟩
 have hsame : Same M M' := ⟨rfl, rfl, fun _ q => q, fun _ q => .inl q, fun q cur e f hq => by
  have hne : q ≠ b := by rintro rfl; rw [hb] at hq; cases hq
  show (M.w.heap.setIfInBounds b _)[q]? = _
  rw [hset.2 q hne]; exact hq, fun q es clk hf hq => by
  have hne : q ≠ b := by rintro rfl; exact hfr hf
  show (M.w.heap.setIfInBounds b _)[q]? = _
  rw [hset.2 q hne]; exact hq⟩
 have hsz : M.w.heap.size ≤ M'.w.heap.size := by show _ ≤ (M.w.heap.setIfInBounds b _).size; simp
 have hext : Ext big M0 M' := by
  refine ⟨⟨he.os, he.tape, he.output, he.drawn, Nat.le_trans he.size hsz, fun q hq hl => ?_, fun q hq => he.free_ q hq, fun q hq => he.only q hq⟩, fun x o hX hx => ?_⟩
  ·have h1 := he.still q hq hl
   refine ⟨?_, h1.2⟩
   show (M.w.heap.setIfInBounds b _)[q]? = _
   rw [hset.2 q (by omega)]; exact h1.1
  ·obtain ⟨o1, l1, s1, n1, m1, c1⟩ := he.ids x o hX hx
   refine ⟨o1, l1, s1, n1, m1, fun q p cur e hm hc => ?_⟩
   obtain ⟨cur1, hc1, z1⟩ := c1 q p cur e hm hc
   exact ⟨cur1, hsame.cells _ _ _ _ hc1, z1⟩
 refine ⟨M', ⟨some (b, L ++ [(key, p)]), it⟩, s, hrun, hext, ⟨⟨hb0, ⟨es.push { key := .string key, val := .agg cs, born := L.length }, ?_, by simp [hes], fun i y hy => ?_⟩, hlv, hfr⟩, ?_⟩, by rw [hd]; exact hsame.rel hr hsz, hk⟩
 ·show (M.w.heap.setIfInBounds b o')[b]? = _
  rw [hset.1]
  simp [o']
 ·rcases Nat.lt_or_ge i L.length with hlt | hge
  ·rw [List.getElem?_append_left hlt] at hy
   obtain ⟨e, q1, q2, q3, cs1, q4, q5, q6⟩ := hent i y hy
   refine ⟨e, ?_, q2, q3, cs1, q4, q5, fun j hj => (q6 j hj).imp fun u hu => ⟨hu.1, hsame.VF hu.2⟩⟩
   rw [Array.getElem?_push_lt (by omega), ← q1, Array.getElem?_eq_getElem (by omega)]
  ·have hi' : i = L.length := by
    have := (List.getElem?_eq_some_iff.1 hy).1
    simp at this; omega
   subst hi'
   simp at hy
   subst hy
   obtain ⟨c1, c2⟩ := net_cells hcs
   exact ⟨{ key := .string key, val := .agg cs, born := L.length }, by have h9 := Array.getElem?_push_size (xs := es) (x := ({ key := .string key, val := .agg cs, born := L.length } : MapEntry)); rw [hes] at h9; exact h9, rfl, rfl, cs, rfl, c1, fun j hj => (c2 j hj).imp fun u hu => ⟨hu.1, hsame.VF hu.2⟩⟩
 ·cases it with
  | none => trivial
  | some q =>
   obtain ⟨h1, ⟨m, h2, ⟨h5, h6⟩, h7⟩, h3, h4⟩ := hit
   refine ⟨h1, ⟨m, ?_, ⟨h5, h6⟩, dict_same hsame h5 h7⟩, h3, h4⟩
   have hne : q.1 ≠ b := by
    intro e
    rw [e, hb] at h2
    cases h2
   show (M.w.heap.setIfInBounds b _)[q.1]? = _
   rw [hset.2 _ hne]; exact h2
theorem seal_map {M0 : Mem} {a : Act} {it} (he : Ext big M0 M) (hgt : GAt M0 M ⟨some (b, L), it⟩) (hr : Rel M s a) (hd : look d s.tm = some (.one (.mapv b))) :
  ∃ M', M'.w = M.w ∧ Ext big M0 M' ∧ GAt M0 M' ⟨none, it⟩ ∧ Rel M' ⟨s.n, ins d (.one (.dm L)) s.tm, s.hp⟩ a := by
 obtain ⟨⟨hb0, hdict, hlv, hfr⟩, hit⟩ := hgt
 have hblt := dict_lt hdict
 let M' : Mem := ⟨M.μ, M.H, M.w, fun q => M.free q ∨ q = b⟩
 have hsame : Same M M' := ⟨rfl, rfl, fun _ q => .inl q, fun q hq => hq.imp id fun e => by subst e; exact ⟨hblt, hlv⟩, fun _ _ _ _ h => h, fun _ _ _ _ h => h⟩
 have hext : Ext big M0 M' := ⟨⟨he.os, he.tape, he.output, he.drawn, he.size, fun q hq hl => he.still q hq hl, fun q hq => .inl (he.free_ q hq), fun q hq => by
  rcases hq with hq | rfl
  ·exact he.only q hq
  ·exact .inr (.inr hb0)⟩, fun x o hX hx => he.ids x o hX hx⟩
 have hr' := hsame.rel hr (Nat.le_refl _)
 refine ⟨M', rfl, hext, ⟨trivial, ?_⟩, hr'.hp, hr'.ok, hr'.defers, hr'.size, fun e v hv => ?_⟩
 ·cases it with
  | none => trivial
  | some q =>
   obtain ⟨h1, ⟨m, h2, ⟨h5, h6⟩, h7⟩, h3, h4⟩ := hit
   refine ⟨h1, ⟨m, h2, ⟨.inl h5, h6⟩, dict_same hsame h5 h7⟩, h3, fun hq => ?_⟩
   rcases hq with hq | hq
   ·exact h4 hq
   ·obtain ⟨es, k1, _⟩ := hdict
    rw [hq, k1] at h2
    cases h2
 ·have hv' : look e (ins d (.one (.dm L)) s.tm) = some v := hv
  rw [look_ins] at hv'
  by_cases hed : e = d
  ·rw [if_pos hed] at hv'
   cases hv'
   subst hed
   obtain ⟨u, q1, q2⟩ := hr.tm e _ hd
   have q3 : u = .map (some b) := q2
   subst q3
   obtain ⟨es, k1, k2, k3⟩ := hdict
   refine ⟨_, q1, b, rfl, ⟨.inr rfl, hlv⟩, es, k1, k2, fun i x hx => ?_⟩
   obtain ⟨e1, q4, q5, q6, cs, q7, q8, q9⟩ := k3 i x hx
   exact ⟨e1, q4, q5, q6, cs, q7, q8, fun j hj => (q9 j hj).imp fun u hu => ⟨hu.1, hsame.VF hu.2⟩⟩
  ·rw [if_neg hed] at hv'
   exact hr'.tm e v hv'
theorem gops_seal {it} (hd : look d s.tm = some (.one (.mapv b))) (hk : GOps P l k K ⟨none, it⟩ ⟨s.n, ins d (.one (.dm L)) s.tm, s.hp⟩) : GOps P l k K ⟨some (b, L), it⟩ s := ⟨fun M0 M a he hgt hr => by
 obtain ⟨M', h1, h2, h3, h4⟩ := seal_map he hgt hr hd
 rw [← h1]
 exact hk.run M0 M' a h2 h3 h4⟩
theorem gwp_seal {c : Code} {it} (hd : look d s.tm = some (.one (.mapv b))) (hk : GWp P c K ⟨none, it⟩ ⟨s.n, ins d (.one (.dm L)) s.tm, s.hp⟩) : GWp P c K ⟨some (b, L), it⟩ s := ⟨fun M0 M a he hgt hr => by
 obtain ⟨M', h1, h2, h3, h4⟩ := seal_map he hgt hr hd
 rw [← h1]
 exact hk.run M0 M' a h2 h3 h4⟩
theorem gwp_cond {c : Operand} {x y : Code} {b : Bool} (hc : s.raw c = some (.one (.bool b))) (ht : b = true → GWp P x K D s) (hf : b = false → GWp P y K D s) : GWp P (.cond c x y) K D s := ⟨fun M0 M a he hd hr =>
 wp_cond_split (VR_bool (raw_sound hr hc)) (fun h => (ht h).run M0 M a he hd hr) (fun h => (hf h).run M0 M a he hd hr)⟩
end
end Go.Ab
namespace Go.Ab
open Go.MapKept Go.ChangeMaps
variable {l r : List Oper} {d i k : Nat} {o : Oper} {x : Operand} {L : List (ByteArray × Sta)} {M : Mem} {es : Array MapEntry} {seen : List Nat}
section
variable {P : Program} {T : Nat → Option TI} {K : GPost} {s : St}
theorem gops_range {t : TypeId} {kt et : TypeId} {own it} (hl : l.drop k = o :: r) (ho : o.op = .range t x) (hd : o.dst = some d) (hg : o.guard = none) (hlt : Nat.ble (d + 1) s.n = true)
  (hm : P.underlying t = some (.map kt et)) (hx : s.raw x = some (.one (.dm L)))
  (hk : ∀ b, GOps P l (k + 1) K ⟨own, some (b, L, [])⟩ ⟨s.n, ins d (.one (.itv b)) s.tm, s.hp⟩) : GOps P l k K ⟨own, it⟩ s := gops_val hl hg fun M0 M a he hgt hr => by
 obtain ⟨m, hxv, ⟨hf, hlv⟩, es, hb, hes, hent⟩ : VM M (.dm L) (a.eval x) := raw_sound hr hx
 have hrun : (execOp a.eval o).run P M.w = .ok (.value (.pointer (some ⟨M.w.heap.size, 0, none⟩))) (M.w.alloc (.mapIter (some m) L.length #[] L.length)) := by
  have h9 := run_range_map (P := P) M.w t kt et m es L.length hm hb
  simp only [execOp, ho, hxv, Sem.run_bind, h9, Result.andThen_ok, Sem.run_pure]
 have hnew : ∀ q, q < M.w.heap.size → (M.w.alloc (.mapIter (some m) L.length #[] L.length)).heap[q]? = M.w.heap[q]? := fun q hq => heap_alloc_old M.w _ hq
 have hext := world_ext (M := M) (w' := M.w.alloc (.mapIter (some m) L.length #[] L.length)) rfl rfl rfl (Nat.le_refl _) (by simp) hnew
 have hok := world_ok hr.ok hext (by simp) hnew
 have hr1 := hr.step0 (M' := ⟨M.μ, M.H, M.w.alloc (.mapIter (some m) L.length #[] L.length), M.free⟩) (hp := s.hp) hr.hp hok hext
 refine ⟨_, ⟨M.μ, M.H, M.w.alloc (.mapIter (some m) L.length #[] L.length), M.free⟩, ⟨own, some (M.w.heap.size, L, [])⟩, _, hrun, he.trans (hext.mono fun x hx => by cases hx), ⟨(hgt.ext hext).1, he.size, ⟨m, heap_alloc_new M.w _, ⟨hf, hlv⟩, dict_keep hext.toKeep hlv ⟨es, hb, hes, hent⟩⟩, fun hlv => ?_, fun hf => ?_⟩, hr1.put (dst := o.dst) (v := .one (.itv M.w.heap.size)) (u := .pointer (some ⟨M.w.heap.size, 0, none⟩)) (putD_g hd hlt) rfl, hk _⟩
 ·have := live_lt hr.ok (b := M.w.heap.size) hlv; omega
 ·have := (hr.ok.fr _ hf).1; omega
theorem ent_born (hes : es.size = L.length) (hent : ∀ i x, L[i]? = some x → ∃ e, es[i]? = some e ∧ EntR M i x e) (hi : i < es.size) : EntR M i (L.getD i default) es[i] := by
 obtain ⟨e, q1, q2⟩ := hent i (L.getD i default) (by rw [List.getD_eq_getElem?_getD, List.getElem?_eq_getElem (by omega)]; rfl)
 rw [Array.getElem?_eq_getElem hi] at q1
 cases q1
 exact q2
theorem ents_born (hes : es.size = L.length) (hent : ∀ i x, L[i]? = some x → ∃ e, es[i]? = some e ∧ EntR M i x e) {e : MapEntry} (he : e ∈ es.toList) : ∃ i, i < L.length ∧ es[i]? = some e ∧ EntR M i (L.getD i default) e := by
 obtain ⟨i, hi, rfl⟩ := List.mem_iff_getElem.1 he
 rw [Array.length_toList] at hi
 refine ⟨i, by omega, ?_, ?_⟩
 ·rw [Array.getElem?_eq_getElem hi]; simp
 ·have := ent_born hes hent hi
  simpa using this
theorem ent_val {x : ByteArray × Sta} {e : MapEntry} (h : EntR M i x e) : ∃ cs, e.val = .agg cs ∧ CellsR M (netV x.2) cs := by
 obtain ⟨_, _, cs, h3, h4, h5⟩ := h
 exact ⟨cs, h3, cells_net h4 h5⟩
theorem iter_same {r : Nat} {m1 : Option Nat} {a1 : Nat} {s1 : Array Nat} {c1 : Nat} (hr : M.w.heap[r]? = some (Go.Obj.mapIter m1 a1 s1 c1)) {w1 : World} (hw : w1 = M.w ∨ w1 = M.w.drew) (o' : Go.Obj) (ho' : ∀ es clk, o' ≠ Go.Obj.map es clk) : Same M ⟨M.μ, M.H, setBlock w1 r o', M.free⟩ ∧ (setBlock w1 r o').heap[r]? = some o' ∧ (∀ q, q ≠ r → (setBlock w1 r o').heap[q]? = M.w.heap[q]?) ∧ (setBlock w1 r o').heap.size = M.w.heap.size := by
 have hh : w1.heap = M.w.heap := by rcases hw with rfl | rfl <;> rfl
 have hr' : w1.heap[r]? = some (Go.Obj.mapIter m1 a1 s1 c1) := by rw [hh]; exact hr
 have hset := MapKept.heap_set (w := w1) (o' := o') hr'
 have h2 : ∀ q, q ≠ r → (setBlock w1 r o').heap[q]? = M.w.heap[q]? := fun q hq => (hset.2 q hq).trans (by rw [hh])
 refine ⟨⟨rfl, rfl, fun _ q => q, fun _ q => .inl q, fun q cur e f hq => ?_, fun q es clk _ hq => ?_⟩, hset.1, h2, by show (w1.heap.setIfInBounds r o').size = _; rw [Array.size_setIfInBounds, hh]⟩
 ·have hne : q ≠ r := by rintro rfl; rw [hr] at hq; cases hq
  exact (h2 q hne).trans hq
 ·have hne : q ≠ r := by rintro rfl; rw [hr] at hq; cases hq
  exact (h2 q hne).trans hq
theorem iter_ext {M0 : Mem} {r : Nat} {w1 : World} (hw : w1 = M.w ∨ w1 = M.w.drew) (o' : Go.Obj) (he : Ext big M0 M) (hr0 : M0.w.heap.size ≤ r) (hs : Same M ⟨M.μ, M.H, setBlock w1 r o', M.free⟩) (h2 : ∀ q, q ≠ r → (setBlock w1 r o').heap[q]? = M.w.heap[q]?) (hsz : (setBlock w1 r o').heap.size = M.w.heap.size) : Ext big M0 ⟨M.μ, M.H, setBlock w1 r o', M.free⟩ := by
 have h5 : (setBlock w1 r o').os = M.w.os ∧ (setBlock w1 r o').tape = M.w.tape ∧ (setBlock w1 r o').output = M.w.output ∧ M.w.drawn ≤ (setBlock w1 r o').drawn := by
  rcases hw with rfl | rfl
  ·exact ⟨rfl, rfl, rfl, Nat.le_refl _⟩
  ·exact ⟨rfl, rfl, rfl, Nat.le_succ _⟩
 refine ⟨⟨h5.1.trans he.os, h5.2.1.trans he.tape, h5.2.2.1.trans he.output, Nat.le_trans he.drawn h5.2.2.2, by show _ ≤ (setBlock w1 r o').heap.size; rw [hsz]; exact he.size, fun q hq hl => ?_, fun q hq => he.free_ q hq, fun q hq => he.only q hq⟩, fun x o hX hx => ?_⟩
 ·have h1 := he.still q hq hl
  exact ⟨(h2 q (by omega)).trans h1.1, h1.2⟩
 ·obtain ⟨o1, l1, s1, n1, m1, c1⟩ := he.ids x o hX hx
  refine ⟨o1, l1, s1, n1, m1, fun q p cur e hm hc => ?_⟩
  obtain ⟨cur1, hc1, z1⟩ := c1 q p cur e hm hc
  exact ⟨cur1, hs.cells _ _ _ _ hc1, z1⟩
theorem left_none (hes : es.size = L.length) (hent : ∀ i x, L[i]? = some x → ∃ e, es[i]? = some e ∧ EntR M i x e) (h : (leftOf es seen.toArray).size = 0) : ∀ i, i < L.length → i ∈ seen := fun i hi => by
 by_cases hc : i ∈ seen
 ·exact hc
 have hi' : i < es.size := by omega
 have hb : (es[i]).born = i := (ent_born hes hent hi').1
 have hm : es[i] ∈ leftOf es seen.toArray := by
  unfold leftOf
  rw [Array.mem_filter]
  refine ⟨Array.getElem_mem hi', ?_⟩
  rw [hb]
  simp [hc]
 have := Array.size_pos_of_mem hm
 omega
theorem gops_next {b : Nat} {own} (hl : l.drop k = o :: r) (ho : o.op = .next x false) (hd : o.dst = some d) (hg : o.guard = none) (hlt : Nat.ble (d + 1) s.n = true) (hx : s.raw x = some (.one (.itv b)))
  (hk0 : (∀ i, i < L.length → i ∈ seen) → GOps P l (k + 1) K ⟨own, some (b, L, seen)⟩ ⟨s.n, ins d (.tup [(false, [.bool false])]) s.tm, s.hp⟩)
  (hk1 : ∀ i, i < L.length → i ∉ seen → GOps P l (k + 1) K ⟨own, some (b, L, seen ++ [i])⟩ ⟨s.n, ins d (.tup [(false, [.bool true]), (false, [.str (L.getD i default).1]), (true, netV (L.getD i default).2)]) s.tm, s.hp⟩) : GOps P l k K ⟨own, some (b, L, seen)⟩ s := gops_val hl hg fun M0 M a he hgt hr => by
 obtain ⟨hown, hr0, ⟨m, hit, ⟨hf, hlv⟩, hdict⟩, hlr, hfr⟩ := hgt
 have hdict0 := hdict
 obtain ⟨es, hb, hes, hent⟩ := hdict
 have hxv : a.eval x = .pointer (some ⟨b, 0, none⟩) := raw_sound hr hx
 have hold : ∀ e ∈ es.toList, e.born < L.length := fun e he => by
  obtain ⟨i, h1, _, h3⟩ := ents_born hes hent he
  rw [h3.1]; exact h1
 rcases run_next_at (P := P) M.w o.type b m L.length L.length seen.toArray es L.length hit hb hold (Nat.le_refl _) with ⟨h1, h2⟩ | ⟨e, h1, w1, hw, h2⟩
 ·refine ⟨.tuple #[.bool false], M, ⟨own, some (b, L, seen)⟩, _, ?_, he, ⟨hown, hr0, ⟨m, hit, ⟨hf, hlv⟩, hdict0⟩, hlr, hfr⟩, hr.put (dst := o.dst) (v := .tup [(false, [.bool false])]) (u := .tuple #[.bool false]) (putD_g hd hlt) ⟨[.bool false], rfl, rfl, fun i e hi => ?_⟩, hk0 (left_none hes hent h1)⟩
  ·simp only [execOp, ho, hxv, Sem.run_bind, h2, Result.andThen_ok, Sem.run_pure]
  ·match i, hi with
   | 0, hi => cases hi; exact ⟨_, rfl, rfl⟩
   | i + 1, hi => simp at hi
 ·have hmem : e ∈ es.toList ∧ ¬ e.born ∈ seen := by
   unfold leftOf at h1
   simp only [Array.mem_toList_iff, Array.mem_filter] at h1
   refine ⟨by simpa using h1.1, ?_⟩
   have := h1.2
   simpa using this
  obtain ⟨i, i1, i2, i3⟩ := ents_born hes hent hmem.1
  have hbi : e.born = i := i3.1
  obtain ⟨hs, g1, g2, g3⟩ := iter_same hit hw (Go.Obj.mapIter (some m) L.length (seen.toArray.push e.born) L.length) (fun _ _ h => by cases h)
  have hext := iter_ext hw _ he hr0 hs g2 g3
  have hr1 := hs.rel hr (by show _ ≤ (setBlock w1 b _).heap.size; rw [g3]; exact Nat.le_refl _)
  obtain ⟨cs, hcs, hcr⟩ := ent_val i3
  have hcr' : CellsR ⟨M.μ, M.H, setBlock w1 b (Go.Obj.mapIter (some m) L.length (seen.toArray.push e.born) L.length), M.free⟩ (netV (L.getD i default).2) cs := hs.CellsR hcr
  refine ⟨.tuple #[.bool true, e.key, e.val], ⟨M.μ, M.H, setBlock w1 b _, M.free⟩, ⟨own, some (b, L, seen ++ [i])⟩, _, ?_, hext, ⟨?_, hr0, ⟨m, ?_, ⟨hf, hlv⟩, dict_same hs hf hdict0⟩, hlr, hfr⟩, hr1.put (dst := o.dst) (v := .tup [(false, [.bool true]), (false, [.str (L.getD i default).1]), (true, netV (L.getD i default).2)]) (u := .tuple #[.bool true, e.key, e.val]) (putD_g hd hlt) ⟨[.bool true, e.key, e.val], rfl, rfl, fun j f hj => ?_⟩, hk1 i i1 (by rw [← hbi]; exact hmem.2)⟩
  ·simp only [execOp, ho, hxv, Sem.run_bind, h2, Result.andThen_ok, Sem.run_pure]
  ·cases own with
   | none => trivial
   | some p =>
    obtain ⟨k1, k2, k3, k4⟩ := hown
    obtain ⟨es2, z1, z2, z3⟩ := k2
    refine ⟨k1, ⟨es2, ?_, z2, fun j y hy => ?_⟩, k3, k4⟩
    ·have hne : p.1 ≠ b := by
      intro e9
      rw [e9, hit] at z1
      cases z1
     exact (g2 _ hne).trans z1
    ·obtain ⟨e2, q1, q2, q3, cs2, q4, q5, q6⟩ := z3 j y hy
     exact ⟨e2, q1, q2, q3, cs2, q4, q5, fun j hj => (q6 j hj).imp fun u hu => ⟨hu.1, hs.VF hu.2⟩⟩
  ·show (setBlock w1 b _).heap[b]? = _
   rw [g1, hbi]
   simp
  ·match j, hj with
   | 0, hj => cases hj; exact ⟨_, rfl, rfl⟩
   | 1, hj => cases hj; exact ⟨e.key, rfl, i3.2.1⟩
   | 2, hj => cases hj; exact ⟨e.val, rfl, cs, hcs, hcr'⟩
   | j + 3, hj => simp at hj
theorem gops_entry {b : Nat} {own} (hl : l.drop k = o :: r) (ho : o.op = .entry x) (hd : o.dst = some d) (hg : o.guard = none) (hlt : Nat.ble (d + 1) s.n = true) (hx : s.raw x = some (.one (.itv b))) (hi : i < L.length)
  (hk : GOps P l (k + 1) K ⟨own, some (b, L, seen ++ [i])⟩ ⟨s.n, ins d (.tup [(false, [.str (L.getD i default).1]), (true, netV (L.getD i default).2)]) s.tm, s.hp⟩) : GOps P l k K ⟨own, some (b, L, seen ++ [i])⟩ s := gops_val hl hg fun M0 M a he hgt hr => by
 have hgt0 := hgt
 obtain ⟨hown, hr0, ⟨m, hit, ⟨hf, hlv⟩, hdict⟩, hlr, hfr⟩ := hgt
 obtain ⟨es, hb, hes, hent⟩ := hdict
 have hxv : a.eval x = .pointer (some ⟨b, 0, none⟩) := raw_sound hr hx
 have hi' : i < es.size := by omega
 have hE := ent_born hes hent hi'
 have hnd : (es.toList.map (·.born)).Nodup := by
  have e : es.toList.map (·.born) = List.range es.size := by
   refine List.ext_getElem (by simp) fun j h1 h2 => ?_
   rw [List.getElem_map, List.getElem_range]
   have hj : j < es.size := by simpa using h2
   have := (ent_born hes hent hj).1
   simpa using this
  rw [e]; exact List.nodup_range
 have hrun : (Instr.entry (.pointer (some ⟨b, 0, none⟩))).run P M.w = .ok (.tuple #[(es[i]).key, (es[i]).val]) M.w :=
  run_entry_at (P := P) M.w b m L.length seen.toArray es L.length es[i] (by rw [hE.1]; rw [hit]; simp) hb (by simp) hnd
 obtain ⟨cs, hcs, hcr⟩ := ent_val hE
 refine ⟨.tuple #[(es[i]).key, (es[i]).val], M, ⟨own, some (b, L, seen ++ [i])⟩, _, ?_, he, hgt0, hr.put (dst := o.dst) (v := .tup [(false, [.str (L.getD i default).1]), (true, netV (L.getD i default).2)]) (u := .tuple #[(es[i]).key, (es[i]).val]) (putD_g hd hlt) ⟨[(es[i]).key, (es[i]).val], rfl, rfl, fun j f hj => ?_⟩, hk⟩
 ·simp only [execOp, ho, hxv, Sem.run_bind, hrun, Result.andThen_ok, Sem.run_pure]
 ·match j, hj with
  | 0, hj => cases hj; exact ⟨_, rfl, hE.2.1⟩
  | 1, hj => cases hj; exact ⟨_, rfl, cs, hcs, hcr⟩
  | j + 2, hj => simp at hj
end
end Go.Ab
namespace Go.Ab
def letterB (x : Int) : Bool := decide (97 ≤ x ∧ x ≤ 122)
def nameErr (w : ByteArray) : Int := if w.size < 1 ∨ 8 < w.size then 3 else if (bts w).all letterB then 0 else 3
theorem nameErr_good {w : ByteArray} (h1 : 1 ≤ w.size) (h8 : w.size ≤ 8) (h : ∀ j, j < w.size → 97 ≤ (bts w).getD j 0 ∧ (bts w).getD j 0 ≤ 122) : nameErr w = 0 := by
 have hl := bts_length w
 rw [nameErr, if_neg (by omega), if_pos]
 refine List.all_eq_true.2 fun x hx => ?_
 obtain ⟨j, hj, rfl⟩ := List.mem_iff_getElem.1 hx
 have h9 := h j (by omega)
 rw [List.getD_eq_getElem?_getD, List.getElem?_eq_getElem hj] at h9
 exact decide_eq_true h9
theorem nameErr_bad {w : ByteArray} {j : Nat} (h1 : 1 ≤ w.size) (h8 : w.size ≤ 8) (hj : j < w.size) (h : (bts w).getD j 0 < 97 ∨ 122 < (bts w).getD j 0) : nameErr w = 3 := by
 have hl := bts_length w
 rw [nameErr, if_neg (by omega), if_neg]
 intro ha
 have hj' : j < (bts w).length := by omega
 have h9 := List.all_eq_true.1 ha _ (List.getElem_mem hj')
 have h10 := of_decide_eq_true h9
 rw [List.getD_eq_getElem?_getD, List.getElem?_eq_getElem hj'] at h
 change (bts w)[j] < 97 ∨ 122 < (bts w)[j] at h
 omega
end Go.Ab
namespace Go.Ab
variable {A : List Bool} {l : List Int} {w : ByteArray}
def ascSet (xs : List Int) : List Bool := xs.foldl (fun A x => A.set x.toNat true) (List.replicate 256 false)
theorem ascSet_snoc {xs : List Int} {k : Nat} (hk : k < xs.length) : ascSet (xs.take (k + 1)) = (ascSet (xs.take k)).set (xs.getD k 0).toNat true := by
 unfold ascSet
 rw [List.take_succ_eq_append_getElem hk, List.foldl_append, List.getD_eq_getElem?_getD, List.getElem?_eq_getElem hk]
 rfl
theorem ascSet_length (xs : List Int) : (ascSet xs).length = 256 := by
 unfold ascSet
 suffices h : ∀ A : List Bool, (xs.foldl (fun A x => A.set x.toNat true) A).length = A.length by
  rw [h, List.length_replicate]
 induction xs with
 | nil => intro A; rfl
 | cons x r ih => intro A; rw [List.foldl_cons, ih, List.length_set]
theorem bts_rng (s : ByteArray) (j : Nat) : 0 ≤ (bts s).getD j 0 ∧ (bts s).getD j 0 ≤ 255 := by
 rcases Nat.lt_or_ge j s.size with h | h
 ·obtain ⟨_, h2⟩ := bts_at h
  rw [← h2]
  have := s[j].toNat_lt
  omega
 ·rw [List.getD_eq_getElem?_getD, List.getElem?_eq_none (by rw [bts_length]; exact h)]
  decide
theorem bts_mem {s : ByteArray} {x : Int} (h : x ∈ bts s) : 0 ≤ x ∧ x ≤ 255 := by
 obtain ⟨j, hj, rfl⟩ := List.mem_iff_getElem.1 h
 have h9 := bts_rng s j
 rw [List.getD_eq_getElem?_getD, List.getElem?_eq_getElem hj] at h9
 exact h9
theorem bts_extract (s : ByteArray) (l h : Nat) : bts (s.extract l h) = ((bts s).take h).drop l := by
 unfold bts
 rw [ByteArray.data_extract, Array.toList_extract, List.extract_eq_take_drop]
 rw [← List.map_take, ← List.map_drop, List.drop_take]
theorem bts_nil {s : ByteArray} : bts s = [] ↔ s.size = 0 := by
 constructor
 ·intro h; rw [← bts_length, h]; rfl
 ·intro h; exact List.eq_nil_of_length_eq_zero (by rw [bts_length]; exact h)
def inS (A : List Bool) (x : Int) : Bool := A.getD x.toNat false
theorem left_yes (h0 : 0 < l.length) (h : inS A (l.getD 0 0) = true) : (l.drop 1).dropWhile (inS A) = l.dropWhile (inS A) := by
 cases l with
 | nil => simp at h0
 | cons a r =>
  have h' : inS A a = true := h
  rw [List.dropWhile_cons, h']; rfl
theorem left_no (h0 : 0 < l.length) (h : inS A (l.getD 0 0) = false) : l.dropWhile (inS A) = l := by
 cases l with
 | nil => simp at h0
 | cons a r =>
  have h' : inS A a = false := h
  rw [List.dropWhile_cons, h']; rfl
theorem right_yes (h0 : 0 < l.length) (h : inS A (l.getD (l.length - 1) 0) = true) : (l.take (l.length - 1)).reverse.dropWhile (inS A) = l.reverse.dropWhile (inS A) := by
 have e : l = l.take (l.length - 1) ++ [l.getD (l.length - 1) 0] := by
  have h9 := take_getD l 0 (l.length - 1) (by omega)
  rw [show l.length - 1 + 1 = l.length by omega, List.take_of_length_le (Nat.le_refl _)] at h9
  exact h9
 have e2 : l.reverse = l.getD (l.length - 1) 0 :: (l.take (l.length - 1)).reverse := by
  have h9 := congrArg List.reverse e
  rw [List.reverse_append] at h9
  exact h9
 rw [e2, List.dropWhile_cons, h]; rfl
theorem right_no (h0 : 0 < l.length) (h : inS A (l.getD (l.length - 1) 0) = false) : l.reverse.dropWhile (inS A) = l.reverse := by
 have e : l = l.take (l.length - 1) ++ [l.getD (l.length - 1) 0] := by
  have h9 := take_getD l 0 (l.length - 1) (by omega)
  rw [show l.length - 1 + 1 = l.length by omega, List.take_of_length_le (Nat.le_refl _)] at h9
  exact h9
 have e2 : l.reverse = l.getD (l.length - 1) 0 :: (l.take (l.length - 1)).reverse := by
  have h9 := congrArg List.reverse e
  rw [List.reverse_append] at h9
  exact h9
 rw [e2, List.dropWhile_cons, h]; rfl
def lettersW : ByteArray := ⟨#[97, 98, 99, 100, 101, 102, 103, 104, 105, 106, 107, 108, 109, 110, 111, 112, 113, 114, 115, 116, 117, 118, 119, 120, 121, 122]⟩
theorem letters_in : ∀ n, n < 256 → inS (ascSet (bts lettersW)) ((n : Nat) : Int) = letterB ((n : Nat) : Int) := by decide +kernel
theorem letters_ok : ∀ j, j < lettersW.size → 0 ≤ (bts lettersW).getD j 0 ∧ (bts lettersW).getD j 0 < 128 := by decide +kernel
theorem drop_both {p : Int → Bool} : (l.dropWhile p).reverse.dropWhile p = [] ↔ ∀ x ∈ l, p x = true := by
 have nil : ∀ l : List Int, l.dropWhile p = [] ↔ ∀ x ∈ l, p x = true := fun l => by
  induction l with
  | nil => simp
  | cons a r ih =>
   rw [List.dropWhile_cons]
   cases h : p a
   ·simp [h]
   ·simp only [if_true, List.mem_cons, forall_eq_or_imp, h, true_and]; exact ih
 constructor
 ·intro h
  have h3 := (nil _).1 h
  cases hu : l.dropWhile p with
  | nil => exact (nil l).1 hu
  | cons a r =>
   exfalso
   have h6 := List.head?_dropWhile_not p l
   rw [hu] at h6
   have h7 := h3 a (by rw [hu]; simp)
   simp [h7] at h6
 ·intro h
  rw [(nil l).2 h]; rfl
theorem trim_letters {r u : ByteArray} (h1 : (bts r).reverse = (bts w).reverse.dropWhile (inS (ascSet (bts lettersW)))) (h2 : bts u = (bts r).dropWhile (inS (ascSet (bts lettersW)))) : u.size = 0 ↔ (bts w).all letterB = true := by
 have key : ∀ x ∈ bts w, inS (ascSet (bts lettersW)) x = letterB x := fun x hx => by
  obtain ⟨a, b⟩ := bts_mem hx
  have := letters_in x.toNat (by omega)
  rwa [show ((x.toNat : Nat) : Int) = x by omega] at this
 have e : bts r = ((bts w).reverse.dropWhile (inS (ascSet (bts lettersW)))).reverse := by rw [← h1, List.reverse_reverse]
 rw [← bts_nil, h2, e, drop_both]
 constructor
 ·intro h
  exact List.all_eq_true.2 fun x hx => by rw [← key x hx]; exact h x (List.mem_reverse.2 hx)
 ·intro h x hx
  rw [key x (List.mem_reverse.1 hx)]
  exact List.all_eq_true.1 h x (List.mem_reverse.1 hx)
theorem bytes_beq {a b : ByteArray} : (a == b) = true ↔ a = b := by
 obtain ⟨x⟩ := a
 obtain ⟨y⟩ := b
 constructor
 ·intro h
  have e : x = y := eq_of_beq (show (x == y) = true from h)
  rw [e]
 ·intro h
  cases h
  show (x == x) = true
  exact beq_self_eq_true x
theorem beq_empty : (w == (⟨#[]⟩ : ByteArray)) = true ↔ w.size = 0 := by
 rw [bytes_beq]
 constructor
 ·intro h; subst h; rfl
 ·intro h
  obtain ⟨d⟩ := w
  have h' : d.size = 0 := h
  rw [Array.eq_empty_of_size_eq_zero h']
theorem trim_none (h1 : 1 ≤ w.size) (c : (w == (⟨#[]⟩ : ByteArray)) = true ∨ (lettersW == (⟨#[]⟩ : ByteArray)) = true) : False := by
 rcases c with c | c
 ·have := beq_empty.1 c; omega
 ·have h9 := beq_empty.1 c
  exact absurd h9 (by decide)
def ofBts (l : List Int) : ByteArray := ⟨(l.map fun x => UInt8.ofNat x.toNat).toArray⟩
theorem ofBts_bts (u : ByteArray) : ofBts (bts u) = u := by
 obtain ⟨⟨d⟩⟩ := u
 show (⟨((d.map fun b => (b.toNat : Int)).map fun x => UInt8.ofNat x.toNat).toArray⟩ : ByteArray) = ⟨⟨d⟩⟩
 rw [List.map_map]
 have e : (d.map ((fun x : Int => UInt8.ofNat x.toNat) ∘ fun b : UInt8 => (b.toNat : Int))) = d := by
  rw [List.map_congr_left (g := id) (fun b _ => by simp)]
  simp
 rw [e]
theorem bts_ofBts (h : ∀ x ∈ l, 0 ≤ x ∧ x ≤ 255) : bts (ofBts l) = l := by
 show ((l.map fun x => UInt8.ofNat x.toNat).toArray.toList.map fun b => (b.toNat : Int)) = l
 rw [List.map_map, List.map_congr_left (g := id) (fun x hx => ?_)]
 ·simp
 ·obtain ⟨a, b⟩ := h x hx
  show ((UInt8.ofNat x.toNat).toNat : Int) = x
  rw [UInt8.toNat_ofNat', Nat.mod_eq_of_lt (by omega)]
  omega
def trimF (w : ByteArray) : ByteArray := ofBts ((((bts w).reverse.dropWhile (inS (ascSet (bts lettersW)))).reverse).dropWhile (inS (ascSet (bts lettersW))))
theorem trimF_is {r u : ByteArray} (h1 : (bts r).reverse = (bts w).reverse.dropWhile (inS (ascSet (bts lettersW)))) (h2 : bts u = (bts r).dropWhile (inS (ascSet (bts lettersW)))) : u = trimF w := by
 rw [trimF, ← h1, List.reverse_reverse, ← h2, ofBts_bts]
theorem trimF_size : (trimF w).size = 0 ↔ (bts w).all letterB = true := by
 have hs : ∀ x ∈ (((bts w).reverse.dropWhile (inS (ascSet (bts lettersW)))).reverse), 0 ≤ x ∧ x ≤ 255 := fun x hx => bts_mem (List.mem_reverse.1 ((List.dropWhile_sublist _).mem (List.mem_reverse.1 hx)))
 have h1 : bts (ofBts (((bts w).reverse.dropWhile (inS (ascSet (bts lettersW)))).reverse)) = ((bts w).reverse.dropWhile (inS (ascSet (bts lettersW)))).reverse := bts_ofBts hs
 refine trim_letters (r := ofBts (((bts w).reverse.dropWhile (inS (ascSet (bts lettersW)))).reverse)) (by rw [h1, List.reverse_reverse]) ?_
 rw [h1]
 exact bts_ofBts fun x hx => hs x ((List.dropWhile_sublist _).mem hx)
theorem trimF_ne : (trimF w != (⟨#[]⟩ : ByteArray)) = !((bts w).all letterB) := by
 unfold bne
 congr 1
 rw [Bool.eq_iff_iff, beq_empty, trimF_size]
end Go.Ab
namespace Go.Ab
variable {w : ByteArray} {p : Sta} {S : List (ByteArray × Sta)} {seen : List Nat} {i : Nat}
def saveL (w : ByteArray) (p : Sta) (S : List (ByteArray × Sta)) (seen : List Nat) : List (ByteArray × Sta) :=
 (w, p) :: ((seen.map fun i => S.getD i default).filter fun x => x.1 != w).map fun x => (x.1, ⟨x.2.n, x.2.s, x.2.t, x.2.es, []⟩)
theorem saveL_yes (h : ((S.getD i default).1 != w) = true) : saveL w p S (seen ++ [i]) = saveL w p S seen ++ [((S.getD i default).1, ⟨(S.getD i default).2.n, (S.getD i default).2.s, (S.getD i default).2.t, (S.getD i default).2.es, []⟩)] := by
 unfold saveL
 rw [List.map_append, List.filter_append, List.map_append, List.map_singleton, List.filter_cons, if_pos h]
 rfl
theorem saveL_no (h : ((S.getD i default).1 != w) = false) : saveL w p S (seen ++ [i]) = saveL w p S seen := by
 unfold saveL
 rw [List.map_append, List.filter_append, List.map_append, List.map_singleton, List.filter_cons, if_neg (by rw [h]; decide)]
 simp
theorem findE_none {k : ByteArray} : ∀ {l : List (ByteArray × Sta)}, findE k l = none ↔ ∀ x ∈ l, x.1 ≠ k
 | [] => by simp [findE]
 | p :: r => by
  rw [findE]
  cases h : (k == p.1)
  ·rw [cond_false, findE_none]
   simp only [List.mem_cons, forall_eq_or_imp]
   refine ⟨fun q => ⟨fun e => ?_, q⟩, fun q => q.2⟩
   rw [bytes_beq.2 e.symm] at h; cases h
  ·rw [cond_true]
   simp only [reduceCtorEq, List.mem_cons, forall_eq_or_imp, false_iff]
   exact fun q => q.1 (bytes_beq.1 h).symm
theorem saveL_new (hn : (S.map (·.1)).Nodup) (hs : ∀ j ∈ seen, j < S.length) (hi : i < S.length) (his : i ∉ seen) (h : ((S.getD i default).1 != w) = true) : findE (S.getD i default).1 (saveL w p S seen) = none := by
 refine findE_none.2 fun x hx => ?_
 unfold saveL at hx
 rcases List.mem_cons.1 hx with rfl | hx
 ·intro e
  have e' : w = (S.getD i default).1 := e
  rw [← e'] at h
  unfold bne at h
  rw [bytes_beq.2 rfl] at h
  cases h
 ·obtain ⟨y, hy, rfl⟩ := List.mem_map.1 hx
  obtain ⟨hy1, _⟩ := List.mem_filter.1 hy
  obtain ⟨j, hj, rfl⟩ := List.mem_map.1 hy1
  intro e
  have hj' := hs j hj
  have e1 : (S.map (·.1))[j]'(by simpa using hj') = (S.map (·.1))[i]'(by simpa using hi) := by
   simp only [List.getElem_map]
   have e2 : (S.getD j default).1 = (S.getD i default).1 := e
   rw [List.getD_eq_getElem?_getD, List.getD_eq_getElem?_getD, List.getElem?_eq_getElem hj', List.getElem?_eq_getElem hi] at e2
   exact e2
  have hij : j = i := by
   rcases Nat.lt_trichotomy j i with q | q | q
   ·exact absurd e1 (List.pairwise_iff_getElem.1 hn j i _ _ q)
   ·exact q
   ·exact absurd e1.symm (List.pairwise_iff_getElem.1 hn i j _ _ q)
  exact his (hij ▸ hj)
theorem nodup_below {l : List Nat} {n : Nat} (h : l.Nodup) (hl : ∀ i ∈ l, i < n) : l.length ≤ n := by
 have := nodup_len (m := List.range n) h fun i hi => List.mem_range.2 (hl i hi)
 simpa using this
theorem name_bad (h : (w.size < 1 ∨ 8 < w.size) ∨ (trimF w != (⟨#[]⟩ : ByteArray)) = true) : nameErr w = 3 := by
 unfold nameErr
 by_cases h1 : w.size < 1 ∨ 8 < w.size
 ·rw [if_pos h1]
 ·rw [if_neg h1]
  have h2 := h.resolve_left h1
  rw [trimF_ne] at h2
  rw [if_neg (by intro e; rw [e] at h2; cases h2)]
theorem name_good (h1 : ¬ (w.size < 1 ∨ 8 < w.size)) (h2 : ¬ (trimF w != (⟨#[]⟩ : ByteArray)) = true) : nameErr w = 0 := by
 unfold nameErr
 rw [if_neg h1]
 rw [trimF_ne] at h2
 rw [if_pos (by cases h : (bts w).all letterB; exact absurd (by rw [h]; rfl) h2; rfl)]
inductive OtherR (n s t : Int) (es : List Arc) (O : List Sta) (S : List (ByteArray × Sta)) (k : Int) (w : ByteArray) : Int → Int → Int → List Arc → List Sta → List (ByteArray × Sta) → Int → Int → Prop
 | undo0 : k = 6 → O.length = 0 → OtherR n s t es O S k w n s t es O S 0 5
 | undo : k = 6 → 0 < O.length → OtherR n s t es O S k w (O.getD (O.length - 1) default).n (O.getD (O.length - 1) default).s (O.getD (O.length - 1) default).t (O.getD (O.length - 1) default).es (O.take (O.length - 1)) S 0 0
 | bad : k = 7 ∨ k = 8 → nameErr w = 3 → OtherR n s t es O S k w n s t es O S 0 3
 | load0 : k = 8 → nameErr w = 0 → (findE w S).isSome = false → OtherR n s t es O S k w n s t es O S 0 5
 | load : k = 8 → nameErr w = 0 → (findE w S).isSome = true → OtherR n s t es O S k w ((findE w S).getD default).n ((findE w S).getD default).s ((findE w S).getD default).t ((findE w S).getD default).es (List.drop (O.length + 1 - 20) (O ++ [(⟨n, s, t, es, []⟩ : Sta)])) S 0 0
 | full : k = 7 → nameErr w = 0 → (findE w S).isSome = false → 4 ≤ S.length → OtherR n s t es O S k w n s t es O S 0 11
 | save (seen : List Nat) : k = 7 → nameErr w = 0 → ((findE w S).isSome = true ∨ S.length < 4) → seen.Nodup → (∀ i ∈ seen, i < S.length) → (∀ i, i < S.length → i ∈ seen) → OtherR n s t es O S k w n s t es O (saveL w ⟨n, s, t, es, []⟩ S seen) 0 0
 | value : k = 9 → OtherR n s t es O S k w n s t es O S (parted n s t es).1 0
 | side : k = 10 → OtherR n s t es O S k w n s t es O S (parted n s t es).2.1 0
 | arcs : k = 11 → OtherR n s t es O S k w n s t es O S (es.length : Int) 0
 | none_ : (k < 6 ∨ 11 < k) → OtherR n s t es O S k w n s t es O S 0 1
end Go.Ab
