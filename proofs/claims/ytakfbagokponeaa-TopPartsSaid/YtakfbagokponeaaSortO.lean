/- Of slices: SortFunc at []int, by the bounds of arcs, as a contract of the abstract machine, out of the library's own one. (Numbers 112, 113: slices.SortFunc, span.Least$1 at seat sg.) -/
import Derived.Test.YtakfbagokponeaaSpanC
import Derived.Test.YtakfbagokponeaaExact
import Derived.Test.YtakfbagokponeaaPlSpan4
import Derived.Shelf.SlSortCmp.NoneTotal
namespace Go.Ab
open Go Go.Proofs Go.Shelf
def sortL_ren : Ren := ⟨fun | 6 => 112 | 14 => 138 | 15 => 128 | 20 => 157 | 21 => 158 | 22 => 159 | 23 => 160 | 24 => 161 | 25 => 162 | 26 => 163 | 27 => 164 | 28 => 152 | 29 => 153 | 46 => 174 | 47 => 168 | 48 => 169 | 49 => 175 | 50 => 176 | 57 => 178 | n => n, fun | 0 => 0 | 3 => 3 | 4 => 4 | 5 => 5 | 9 => 9 | 22 => 25 | 24 => 3 | 25 => 104 | 39 => 170 | 45 => 189 | 46 => 190 | 50 => 194 | 53 => 197 | 55 => 199 | 66 => 216 | 70 => 220 | 76 => 226 | 77 => 227 | n => n, fun n => n⟩
theorem sortL : SlLaysF.n6 Try.prog sortL_ren := {
  mixed := by kernel_rfl
  f6 := ⟨"slices.SortFunc[[]int,int]", by kernel_rfl, Try.func112.trans (congrArg some (by kernel_rfl))⟩
  f14 := ⟨"slices.pdqsortCmpFunc[int]", by kernel_rfl, Try.func138.trans (congrArg some (by kernel_rfl))⟩
  f15 := Try.func128.trans (congrArg some (by kernel_rfl))
  f20 := ⟨"slices.insertionSortCmpFunc[int]", by kernel_rfl, Try.func157.trans (congrArg some (by kernel_rfl))⟩
  f21 := ⟨"slices.heapSortCmpFunc[int]", by kernel_rfl, Try.func158.trans (congrArg some (by kernel_rfl))⟩
  f22 := ⟨"slices.breakPatternsCmpFunc[int]", by kernel_rfl, Try.func159.trans (congrArg some (by kernel_rfl))⟩
  f23 := ⟨"slices.choosePivotCmpFunc[int]", by kernel_rfl, Try.func160.trans (congrArg some (by kernel_rfl))⟩
  f24 := ⟨"slices.reverseRangeCmpFunc[int]", by kernel_rfl, Try.func161.trans (congrArg some (by kernel_rfl))⟩
  f25 := ⟨"slices.partialInsertionSortCmpFunc[int]", by kernel_rfl, Try.func162.trans (congrArg some (by kernel_rfl))⟩
  f26 := ⟨"slices.partitionEqualCmpFunc[int]", by kernel_rfl, Try.func163.trans (congrArg some (by kernel_rfl))⟩
  f27 := ⟨"slices.partitionCmpFunc[int]", by kernel_rfl, Try.func164.trans (congrArg some (by kernel_rfl))⟩
  f28 := Try.func152.trans (congrArg some (by kernel_rfl))
  f29 := Try.func153.trans (congrArg some (by kernel_rfl))
  f46 := ⟨"slices.siftDownCmpFunc[int]", by kernel_rfl, Try.func174.trans (congrArg some (by kernel_rfl))⟩
  f47 := Try.func168.trans (congrArg some (by kernel_rfl))
  f48 := Try.func169.trans (congrArg some (by kernel_rfl))
  f49 := ⟨"slices.medianAdjacentCmpFunc[int]", by kernel_rfl, Try.func175.trans (congrArg some (by kernel_rfl))⟩
  f50 := ⟨"slices.medianCmpFunc[int]", by kernel_rfl, Try.func176.trans (congrArg some (by kernel_rfl))⟩
  f57 := ⟨"slices.order2CmpFunc[int]", by kernel_rfl, Try.func178.trans (congrArg some (by kernel_rfl))⟩
  t0 := Try.underlying0
  a0 := Try.isAgg0
  z0 := Try.sizeOf0
  v0 := Try.zeroValue0
  t3 := Try.underlying3
  a3 := Try.isAgg3
  z3 := Try.sizeOf3
  v3 := Try.zeroValue3
  t4 := Try.underlying4
  a4 := Try.isAgg4
  z4 := Try.sizeOf4
  v4 := Try.zeroValue4
  t5 := Try.underlying5
  a5 := Try.isAgg5
  z5 := Try.sizeOf5
  v5 := Try.zeroValue5
  t9 := Try.underlying9
  a9 := Try.isAgg9
  z9 := Try.sizeOf9
  v9 := Try.zeroValue9
  t22 := Try.underlying25
  a22 := Try.isAgg25
  z22 := Try.sizeOf25
  v22 := Try.zeroValue25
  a24 := Try.isAgg3
  z24 := Try.sizeOf3
  t25 := Try.underlying104
  a25 := Try.isAgg104
  z25 := Try.sizeOf104
  v25 := Try.zeroValue104
  t39 := Try.underlying170
  a39 := Try.isAgg170
  z39 := Try.sizeOf170
  v39 := Try.zeroValue170
  t45 := Try.underlying189
  a45 := Try.isAgg189
  z45 := Try.sizeOf189
  v45 := Try.zeroValue189
  t46 := Try.underlying190
  a46 := Try.isAgg190
  z46 := Try.sizeOf190
  v46 := Try.zeroValue190
  t50 := Try.underlying194
  a50 := Try.isAgg194
  z50 := Try.sizeOf194
  v50 := Try.zeroValue194
  t53 := Try.underlying197
  a53 := Try.isAgg197
  z53 := Try.sizeOf197
  v53 := Try.zeroValue197
  t55 := Try.underlying199
  a55 := Try.isAgg199
  z55 := Try.sizeOf199
  v55 := Try.zeroValue199
  t66 := Try.underlying216
  a66 := Try.isAgg216
  z66 := Try.sizeOf216
  v66 := Try.zeroValue216
  t70 := Try.underlying220
  a70 := Try.isAgg220
  z70 := Try.sizeOf220
  v70 := Try.zeroValue220
  t76 := Try.underlying226
  a76 := Try.isAgg226
  z76 := Try.sizeOf226
  v76 := Try.zeroValue226
  t77 := Try.underlying227
  a77 := Try.isAgg227
  z77 := Try.sizeOf227
  v77 := Try.zeroValue227 }
end Go.Ab
namespace Go.Ab
open Go.Sort Go.Proofs Go.Shelf
abbrev encF {n : Nat} (x : Fin n) : Value := .int .i64 ((x.val : Nat) : Int)
def cfF (es : List Arc) (x y : Fin es.length) : Int := cmpS es ((x.val : Nat) : Int) ((y.val : Nat) : Int)
theorem ltF (es : List Arc) (x y : Fin es.length) : ltOf (cfF es) x y = lowB es x.val y.val := by
  unfold ltOf cfF
  cases h : lowB es x.val y.val
  · exact decide_eq_false fun q => by rw [cmpS_neg.1 q] at h; cases h
  · exact decide_eq_true (cmpS_neg.2 h)
theorem swoF (es : List Arc) : SWO (ltOf (cfF es)) where
  irrefl x := by
    rw [ltF]
    cases h : lowB es x.val x.val
    · rfl
    · have := lowB_irr h; rw [h] at this; cases this
  trans x y z h1 h2 := by rw [ltF] at *; exact lowB_trans h1 h2
  ntrans x y z h1 h2 := by rw [ltF] at *; exact lowB_ntrans h1 h2
theorem totF (es : List Arc) (x y : Fin es.length) (h1 : ltOf (cfF es) x y = false) (h2 : ltOf (cfF es) y x = false) : x = y := by
  rw [ltF] at *
  exact Fin.ext (lowB_total h1 h2)
theorem lk_two {o1 o2 o' : Obj} {k : Key} (h1 : ∀ i xss, o1 ≠ .mat i xss) (h2 : ∀ i xss, o2 ≠ .mat i xss) (h : lk [(1, o1), (2, o2)] k = some o') : (k = (1, none) ∧ o' = o1) ∨ (k = (2, none) ∧ o' = o2) := by
  obtain ⟨y, r⟩ := k
  have key : ∀ o'' , look y [(1, o1), (2, o2)] = some o'' → (y = 1 ∧ o'' = o1) ∨ (y = 2 ∧ o'' = o2) := fun o'' hq => by
    simp only [look] at hq
    cases ha : Nat.beq 1 y
    · rw [ha] at hq
      simp only [cond_false] at hq
      cases hb : Nat.beq 2 y
      · rw [hb] at hq; cases hq
      · rw [hb] at hq
        cases hq
        exact .inr ⟨(Nat.eq_of_beq_eq_true hb).symm, rfl⟩
    · rw [ha] at hq
      cases hq
      exact .inl ⟨(Nat.eq_of_beq_eq_true ha).symm, rfl⟩
  cases r with
  | none =>
    rcases key o' (by simpa [lk] using h) with ⟨rfl, rfl⟩ | ⟨rfl, rfl⟩
    · exact .inl ⟨rfl, rfl⟩
    · exact .inr ⟨rfl, rfl⟩
  | some i =>
    simp only [lk] at h
    cases hq : look y [(1, o1), (2, o2)] with
    | none => rw [hq] at h; cases h
    | some o'' =>
      rw [hq] at h
      rcases key o'' hq with ⟨rfl, rfl⟩ | ⟨rfl, rfl⟩
      · cases o'' with
        | mat a b => exact absurd rfl (h1 a b)
        | flat c => cases h
        | recs c => cases h
        | box n sz vs => cases h
      · cases o'' with
        | mat a b => exact absurd rfl (h2 a b)
        | flat c => cases h
        | recs c => cases h
        | box n sz vs => cases h
theorem cmp_exact (n : Int) (es : List Arc) (W : World) (bx off : Nat) (hbx : bx < W.heap.size) (A : Option Addr) (cap : Nat)
    (h0 : W.cell? ⟨bx, off, none⟩ = some (.int .i64 n)) (h1 : W.cell? ⟨bx, off + 1, none⟩ = some (.slice A es.length cap))
    (hr : (stillM W).roSl es.length 3 (fun i j u => VB ((C0.arcs es).cell i j) u) (.slice A es.length cap)) (x y : Fin es.length) :
    Calls Try.prog 113 #[encF x, encF y, .pointer (some ⟨bx, off, none⟩)] W fun e w' => e = .returned (.int .i64 (cfF es x y)) ∧ ∃ q os', w' = grow (W.drewN q) os' := by
  refine (least_cmp n es ((x.val : Nat) : Int) ((y.val : Nat) : Int) (by omega) (by have := x.isLt; omega) (by omega) (by have := y.isLt; omega)).exact W [encF x, encF y, .pointer (some ⟨bx, off, none⟩)] ⟨rfl, fun i v hv => ?_⟩
  match i, hv with
  | 0, hv => cases hv; exact ⟨_, rfl, rfl⟩
  | 1, hv => cases hv; exact ⟨_, rfl, rfl⟩
  | 2, hv =>
    cases hv
    refine ⟨_, rfl, ?_⟩
    refine ⟨by simp [C1.len], by simp [C1.sz], bx, off, by simp, ⟨hbx, stillM_live W bx⟩, fun i hi j hj => ?_⟩
    have hi0 : i = 0 := by simp [C1.len] at hi; omega
    subst hi0
    have hj2 : j = 0 ∨ j = 1 := by simp only [C1.sz] at hj; omega
    rcases hj2 with rfl | rfl
    · exact ⟨_, by show W.cell? _ = _; simpa [C1.sz] using h0, rfl⟩
    · exact ⟨_, by show W.cell? _ = _; simpa [C1.sz] using h1, hr⟩
  | i + 3, hv => cases hv
abbrev gBox (n : Int) (es : List Arc) : Obj := .box 1 2 [(.int .i64 n), (.ro (.arcs es))]
theorem sort_order (n : Int) (es : List Arc) (h60 : es.length ≤ 60) (hfn : ∃ fn, Try.prog.funcs[112]? = some fn ∧ (fn.name == "runtime.NumGoroutine") = false ∧ fn.body.isNone = false) :
    ACall Try.prog 112 [.one (.rw 2 0 (idsOf es.length).length), .one (.fn 113 [.ptr 1 0 0])] [(1, gBox n es), (2, .flat (.ints .i64 (idsOf es.length)))]
      (fun ov oh => ov = .tup [] ∧ oh = [(1, gBox n es), (2, .flat (.ints .i64 (ordO es)))]) := by
  have hzl := ids_len es.length
  refine ⟨hfn, fun M us hH hM ha => ?_⟩
  obtain ⟨hl, hv⟩ := ha
  obtain ⟨u, hu, hr⟩ := hv 0 _ rfl
  obtain ⟨v, hv1, hf⟩ := hv 1 _ rfl
  obtain rfl : us = [u, v] := by
    match us, hl, hu, hv1 with
    | [x, y], _, hu, hv1 => cases hu; cases hv1; rfl
  obtain ⟨cs, rfl, hcl, hcs⟩ := hf
  obtain ⟨c, hc0, hcp⟩ := hcs 0 _ rfl
  obtain rfl : cs = [c] := by
    match cs, hcl, hc0 with
    | [x], _, hc0 => cases hc0; rfl
  have hlk1 : lk M.H (1, none) = some (gBox n es) := by rw [hH]; simp [lk, look]
  have hlk2 : lk M.H (2, none) = some (.flat (.ints .i64 (idsOf es.length))) := by rw [hH]; rfl
  obtain ⟨ob, bx, px, hob, hμ1, rfl⟩ := hcp
  rw [hlk1] at hob
  cases hob
  obtain ⟨curB, eB, hbB, hszB, hcB⟩ := hM.obj _ _ _ _ hlk1 hμ1
  obtain ⟨o, ho, _, hc⟩ := hr
  rw [hlk2] at ho
  cases ho
  have hlt : ∀ (b : Nat) (ob : Go.Obj), M.w.heap[b]? = some ob → b < M.w.heap.size := fun b ob h => by
    rcases Nat.lt_or_ge b M.w.heap.size with q | q
    · exact q
    · rw [Array.getElem?_eq_none q] at h; cases h
  have hbxs := hlt _ _ hbB
  obtain ⟨u0, hu0, _, hr0⟩ := hcB 0 (by simp [Obj.len]) 0 (by simp [Obj.sz])
  obtain ⟨u1, hu1, _, hr1⟩ := hcB 0 (by simp [Obj.len]) 1 (by simp [Obj.sz])
  have e0 : u0 = .int .i64 n := hr0
  obtain ⟨A, acap, rfl, hal, ham, hrow⟩ : M.roSl es.length 3 (fun i j u => VB ((C0.arcs es).cell i j) u) u1 := hr1
  subst e0
  have hus : ∃ A2 cap2, u = .slice A2 (idsOf es.length).length cap2 := by
    rcases hc with ⟨h0, A2, rfl⟩ | ⟨b, p, a, cap, _, rfl, _⟩
    · exact ⟨A2, 0, by rw [h0]⟩
    · exact ⟨_, _, rfl⟩
  by_cases hz : es.length = 0
  · obtain ⟨A2, cap2, rfl⟩ := hus
    have hes : es = [] := List.eq_nil_of_length_eq_zero hz
    have hN := AnyF.slices_SortFunc_none (P := Try.prog) (ρ := sortL_ren) { sortL with } A2 cap2 (.func (.func 113) #[] #[.pointer (some ⟨bx, px + (0 * (gBox n es).sz + 0), none⟩)]) M.w
    rw [hzl, hz]
    refine (show Calls Try.prog 112 _ _ _ from hN).mono fun e w' hq => ?_
    obtain ⟨rfl, rfl⟩ := hq
    refine ⟨.tup [], .tuple #[], M, rfl, ⟨rfl, ?_⟩, ⟨[], rfl, rfl, fun i e h => by simp at h⟩, hM, rfl, Ext.refl _ _⟩
    rw [hH]
    subst hes
    rw [show ordO ([] : List Arc) = idsOf ([] : List Arc).length from List.eq_nil_of_length_eq_zero (ordO_ok []).len]
  · rcases hc with ⟨h0, _⟩ | ⟨b, p, a, cap, hμ, rfl, hcap, hmax, ha2, _⟩
    · omega
    obtain ⟨cur, e, hb, hsz, hcells⟩ := hM.obj _ _ _ _ hlk2 hμ
    have hblk := hlt _ _ hb
    obtain rfl : a = p := by rw [ha2]; omega
    have hsz' : a + es.length ≤ cur.size := by simpa [Obj.len, Obj.sz, C0.len, C0.sz, hzl] using hsz
    have hbb : bx ≠ b := fun q => by
      subst q
      have := hM.inj _ _ _ _ _ _ _ hlk1 hlk2 hμ1 hμ
      cases this
    haveI : Inhabited (Fin es.length) := ⟨⟨0, by omega⟩⟩
    have hds : (finL es.length).toArray.size = es.length := by rw [List.size_toArray, finL_len]
    have hat : ∀ j (hj : j < es.length), encF ((finL es.length).toArray[j]!) = .int .i64 (j : Int) := fun j hj => by
      rw [getElem!_pos _ j (by rw [hds]; exact hj)]
      simp [finL, encF]
    have hcell : ∀ j, j < es.length → cur[a + j]? = some (.int .i64 (j : Int)) := by
      intro j hj
      obtain ⟨u, h1, _, h2⟩ := hcells j (by simpa [Obj.len, C0.len, hzl] using hj) 0 (by simp [Obj.sz, C0.sz])
      have h3 : u = .int .i64 ((idsOf es.length).getD j 0) := h2
      rw [show a + (j * (Obj.flat (.ints .i64 (idsOf es.length))).sz + 0) = a + j from by simp [Obj.sz, C0.sz]] at h1
      rw [h1, h3, ids_at hj]
    have hH' : Holds encF M.w b a (finL es.length).toArray := by
      intro j hj
      rw [hds] at hj
      have h1 := hcell j hj
      refine ⟨?_, ?_⟩
      · rw [hat j hj]
        simp only [World.cell?, hb]
        simpa using h1
      · simp [World.frozen?, hb]
    have eg : ∀ args w, (callFunc 113 args).run Try.prog w = .ok (.enter 113 args) w := enters_of Try.func113 (by kernel_rfl) rfl
    have hother0 : ∀ (m : Nat) (dk : Array (Fin es.length)) (os : Array Go.Obj) k, k < M.w.heap.size → k ≠ b → (sortWorld encF M.w b a m dk os).heap[k]? = M.w.heap[k]? := fun m dk os k hk hne => by
      unfold sortWorld
      rw [heap_grow_old _ _ (by rw [_root_.Go.Sort.size_putRow, heap_ahead]; exact hk)]
      show (M.w.heap.modify b (onCells (putCells encF a dk)))[k]? = _
      rw [Array.getElem?_modify, if_neg (Ne.symm hne)]
    have hcmp : CmpLays1 Try.prog 113 #[.pointer (some ⟨bx, px + (0 * (gBox n es).sz + 0), none⟩)] encF (cfF es) b a (finL es.length).toArray.size M.w := fun m os dk _ x y => by
      have hsW : M.w.heap.size ≤ (sortWorld encF M.w b a m dk os).heap.size := by unfold sortWorld; rw [size_grow, _root_.Go.Sort.size_putRow, heap_ahead]; omega
      have hcl : ∀ k j v, k < M.w.heap.size → k ≠ b → M.w.cell? ⟨k, j, none⟩ = some v → (sortWorld encF M.w b a m dk os).cell? ⟨k, j, none⟩ = some v := fun k j v hk hne hq => by
        simp only [World.cell?] at hq ⊢
        rw [hother0 m dk os k hk hne]; exact hq
      refine cmp_exact n es _ bx (px + (0 * (gBox n es).sz + 0)) (Nat.lt_of_lt_of_le hbxs hsW) A acap ?_ ?_ ?_ x y
      · refine hcl bx _ _ hbxs hbb ?_
        simp only [World.cell?, hbB]
        simpa using hu0
      · refine hcl bx _ _ hbxs hbb ?_
        simp only [World.cell?, hbB]
        simpa using hu1
      · refine ⟨A, acap, rfl, hal, ham, ?_⟩
        rcases hrow with h0 | ⟨b2, off, rfl, ⟨hf1, hf2⟩, hcc⟩
        · exact .inl h0
        · have hb2 : b2 ≠ b := fun q => hf2 (by rw [q]; exact ⟨_, _, _, hlk2, hμ⟩)
          have hb2s := (hM.fr _ hf1).1
          exact .inr ⟨b2, off, rfl, ⟨Nat.lt_of_lt_of_le hb2s hsW, stillM_live _ _⟩, fun i hi j hj => by
            obtain ⟨w, hw1, hw2⟩ := hcc i hi j hj
            exact ⟨w, hcl b2 _ _ hb2s hb2 hw1, hw2⟩⟩
    have hS := Any.slices_SortFunc_total sortL encF (fun _ => rfl) (cfF es) (swoF es) 113 #[.pointer (some ⟨bx, px + (0 * (gBox n es).sz + 0), none⟩)] b a cap (finL es.length).toArray M.w eg hcmp hH' hblk (by rw [hds]; omega) (totF es)
    rw [hds] at hS
    rw [hzl]
    refine (show Calls Try.prog 112 _ _ _ from hS).mono fun e' w' hq => ?_
    obtain ⟨rfl, m, os, rfl⟩ := hq
    have hfs := fin_sort es (ltOf (cfF es)) (ltF es)
    generalize hss : (finL es.length).mergeSort (fun x y => !ltOf (cfF es) y x) = ss at *
    have hsl : ss.length = es.length := by rw [← hss, List.length_mergeSort, finL_len]
    have hoL : (ordO es).length = es.length := (ordO_ok es).len
    unfold sortWorld
    generalize hW : grow (putRow encF (Sort.ahead M.w m) b a ss.toArray) os = W'
    have hsize : M.w.heap.size ≤ W'.heap.size := by rw [← hW, size_grow, _root_.Go.Sort.size_putRow, heap_ahead]; omega
    have hold : ∀ k, k < M.w.heap.size → W'.heap[k]? = (M.w.heap.modify b (onCells (putCells encF a ss.toArray)))[k]? := by
      intro k hk
      rw [← hW, heap_grow_old _ _ (by rw [_root_.Go.Sort.size_putRow, heap_ahead]; exact hk)]; rfl
    have hother : ∀ k, k < M.w.heap.size → k ≠ b → W'.heap[k]? = M.w.heap[k]? := by
      intro k hk hne
      rw [hold k hk, Array.getElem?_modify, if_neg (Ne.symm hne)]
    have hb' : W'.heap[b]? = some (.cells (putCells encF a ss.toArray cur) e (0, 0)) := by
      rw [hold b hblk, Array.getElem?_modify, if_pos rfl, hb]; rfl
    have hps : (putCells encF a ss.toArray cur).size = cur.size := by simp [putCells]
    have hval : ∀ i (hi : i < es.length), encF (ss.toArray[i]!) = .int .i64 ((ordO es).getD i 0) := fun i hi => by
      rw [getElem!_pos _ i (by rw [List.size_toArray, hsl]; exact hi), ← hfs, getD_lt _ 0 i (by rw [List.length_map, hsl]; exact hi)]
      simp [encF]
    have hpc : ∀ i, i < es.length → (putCells encF a ss.toArray cur)[a + i]? = some (.int .i64 ((ordO es).getD i 0)) := by
      intro i hi
      have hlt : a + i < cur.size := by omega
      simp only [putCells, Array.getElem?_mapIdx, Array.getElem?_eq_getElem hlt, Option.map_some]
      rw [if_pos ⟨by omega, by simp; omega⟩, show a + i - a = i by omega, hval i hi]
    have hno1 : ∀ i xss, gBox n es ≠ .mat i xss := fun i xss q => by cases q
    have hno2 : ∀ (zs : List Int) i xss, (Obj.flat (.ints .i64 zs)) ≠ .mat i xss := fun zs i xss q => by cases q
    have hl1 : lk [(1, gBox n es), (2, Obj.flat (.ints .i64 (ordO es)))] (1, none) = some (gBox n es) := rfl
    have hl2 : lk [(1, gBox n es), (2, Obj.flat (.ints .i64 (ordO es)))] (2, none) = some (.flat (.ints .i64 (ordO es))) := rfl
    have htwo : ∀ {k o}, lk [(1, gBox n es), (2, Obj.flat (.ints .i64 (ordO es)))] k = some o → (k = (1, none) ∧ o = gBox n es) ∨ (k = (2, none) ∧ o = .flat (.ints .i64 (ordO es))) := fun h => lk_two hno1 (hno2 _) h
    have htwo0 : ∀ {k o}, lk M.H k = some o → (k = (1, none) ∧ o = gBox n es) ∨ (k = (2, none) ∧ o = .flat (.ints .i64 (idsOf es.length))) := fun h => lk_two hno1 (hno2 _) (by rw [hH] at h; exact h)
    have hlive : ∀ c, (Mem.mk M.μ [(1, gBox n es), (2, Obj.flat (.ints .i64 (ordO es)))] W' M.free).live c ↔ M.live c := by
      intro c
      constructor
      · rintro ⟨x, o, q, h1, h2⟩
        rcases htwo h1 with ⟨rfl, rfl⟩ | ⟨rfl, rfl⟩
        · exact ⟨_, _, q, hlk1, h2⟩
        · exact ⟨_, _, q, hlk2, h2⟩
      · rintro ⟨x, o, q, h1, h2⟩
        rcases htwo0 h1 with ⟨rfl, rfl⟩ | ⟨rfl, rfl⟩
        · exact ⟨_, _, q, hl1, h2⟩
        · exact ⟨_, _, q, hl2, h2⟩
    have hWos : W'.os = M.w.os := by rw [← hW]; rfl
    have hWt : W'.tape = M.w.tape := by rw [← hW]; rfl
    have hWo : W'.output = M.w.output := by rw [← hW]; rfl
    have hWd : M.w.drawn ≤ W'.drawn := by rw [← hW]; first | exact Nat.le_refl _ | exact Nat.le_add_right _ _ | exact Nat.le_add_left _ _
    have hK : Keep M ⟨M.μ, [(1, gBox n es), (2, Obj.flat (.ints .i64 (ordO es)))], W', M.free⟩ :=
      ⟨hWos, hWt, hWo, hWd, hsize, fun c hc hl => ⟨hother c hc (fun q => hl (by rw [q]; exact ⟨_, _, _, hlk2, hμ⟩)), fun h => hl ((hlive c).1 h)⟩, fun c hc => hc, fun c hc => .inl hc⟩
    have hbB' : W'.heap[bx]? = some (.cells curB eB (0, 0)) := by rw [hother bx hbxs hbb]; exact hbB
    refine ⟨.tup [], .tuple #[], ⟨M.μ, [(1, gBox n es), (2, .flat (.ints .i64 (ordO es)))], W', M.free⟩, rfl, ⟨rfl, rfl⟩, ⟨[], rfl, rfl, fun i e h => by simp at h⟩, ?_, rfl, ?_⟩
    · refine ⟨fun x i xss h => ?_, fun c hc => ⟨Nat.lt_of_lt_of_le (hM.fr c hc).1 hsize, fun hl => (hM.fr c hc).2 ((hlive c).1 hl)⟩, fun x y o o' c q1 q2 h1 h2 h3 h4 => ?_, fun x o h1 h2 => ?_, fun x o c q h1 h2 => ?_⟩
      · rcases htwo (k := (x, none)) (o := .mat i xss) h with ⟨_, q⟩ | ⟨_, q⟩ <;> cases q
      · rcases htwo h1 with ⟨rfl, rfl⟩ | ⟨rfl, rfl⟩ <;> rcases htwo h2 with ⟨rfl, rfl⟩ | ⟨rfl, rfl⟩
        · rfl
        · exact hM.inj _ _ _ _ _ _ _ hlk1 hlk2 h3 h4
        · exact hM.inj _ _ _ _ _ _ _ hlk2 hlk1 h3 h4
        · rfl
      · rcases htwo h1 with ⟨rfl, rfl⟩ | ⟨rfl, rfl⟩
        · exact hM.none_ _ _ hlk1 h2
        · rw [hμ] at h2; cases h2
      · rcases htwo h1 with ⟨rfl, rfl⟩ | ⟨rfl, rfl⟩
        · have h2' : M.μ (1, none) = some (c, q) := h2
          rw [hμ1] at h2'
          cases h2'
          refine ⟨curB, eB, hbB', hszB, fun i hi j hj => ?_⟩
          have hi0 : i = 0 := by simp [Obj.len] at hi; omega
          subst hi0
          have hj2 : j = 0 ∨ j = 1 := by simp [Obj.sz] at hj; omega
          rcases hj2 with rfl | rfl
          · exact ⟨_, hu0, rfl, rfl⟩
          · refine ⟨_, hu1, rfl, ?_⟩
            exact VF_keep (v := .ro (.arcs es)) hK (show VF M (.ro (.arcs es)) _ from ⟨A, acap, rfl, hal, ham, hrow⟩)
        · have h2' : M.μ (2, none) = some (c, q) := h2
          rw [hμ] at h2'
          cases h2'
          refine ⟨_, e, hb', ?_, fun i hi j hj => ?_⟩
          · rw [hps]; simp only [Obj.len, Obj.sz, C0.len, C0.sz]; omega
          · have hj0 : j = 0 := by simp only [Obj.sz, C0.sz] at hj; omega
            subst hj0
            have hi' : i < es.length := by simpa [Obj.len, C0.len, hoL] using hi
            exact ⟨_, by rw [show a + (i * (Obj.flat (.ints .i64 (ordO es))).sz + 0) = a + i from by simp [Obj.sz, C0.sz]]; exact hpc i hi', rfl, rfl⟩
    · refine ⟨hK, fun x o _ h1 => ?_⟩
      rcases htwo0 h1 with ⟨rfl, rfl⟩ | ⟨rfl, rfl⟩
      · refine ⟨_, hl1, rfl, Nat.le_refl _, rfl, fun c q cur' e' h2 h3 => ?_⟩
        rw [hμ1] at h2
        cases h2
        rw [hbB] at h3
        cases h3
        exact ⟨_, hbB', rfl⟩
      · refine ⟨_, hl2, rfl, by simp only [Obj.len, C0.len]; omega, rfl, fun c q cur' e' h2 h3 => ?_⟩
        rw [hμ] at h2
        cases h2
        rw [hb] at h3
        cases h3
        exact ⟨_, hb', hps⟩
end Go.Ab
