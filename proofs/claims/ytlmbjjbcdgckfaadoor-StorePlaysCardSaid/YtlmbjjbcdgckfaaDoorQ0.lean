/- Parts of the proof, without conditions. -/
import Derived.Test.YtlmbjjbcdgckfaaDoorAbC
import Derived.Lib.ConvBytes
import Derived.Test.YtlmbjjbcdgckfaaDoorPlA
import Derived.Test.YtlmbjjbcdgckfaaDoorKk
import Derived.Test.YtlmbjjbcdgckfaaDoorTab
namespace Go.Ab
section
variable {P : Program} {K : Post} {s : St}
theorem aops_bytes {l : List Oper} {k : Nat} {o : Oper} {r : List Oper} {src dst e : TypeId} {x : Operand} {d : Nat} {w : ByteArray} (hl : l.drop k = o :: r) (ho : o.op = .convert src dst x) (hd : o.dst = some d) (hg : o.guard = none) (hlt : Nat.ble (d + 1) s.n = true)
  (hs : P.underlying src = some .string) (hds : P.underlying dst = some (.slice e)) (hue : P.underlying e = some (.int .u8)) (hx : s.raw x = some (.one (.str w))) (hw : w.size ≤ maxLen)
  (hk : AOps P l (k + 1) K ⟨s.n, ins d (.one (.ro (.ints .u8 (bts w)))) s.tm, s.hp⟩) : AOps P l k K s := ⟨fun M0 M a he hr => by
 have hd0 := drop_next hl
 rw [hl]
 unfold wpList
 rw [if_pos (by simp [Region.wanted, hg])]
 refine .inl ?_
 have hxv : a.eval x = .string w := VR_str (raw_sound hr hx)
 have hrun : (execOp a.eval o).run P M.w = .ok (.value (.slice (some ⟨M.w.heap.size, 0, none⟩) w.size (grownCap M.w w.size 0 e))) (Lib.bytesWorld M.w e w) := by
  have h9 := Lib.run_convert_string_bytes (P := P) M.w src dst e w hs hds hue
  simp only [execOp, ho, hxv, Sem.run_bind, h9, Result.andThen_ok, Sem.run_pure]
 unfold Oper.wp
 rw [hrun]
 have hnew : ∀ q, q < M.w.heap.size → (Lib.bytesWorld M.w e w).heap[q]? = M.w.heap[q]? := fun q hq => Lib.bytesWorld_at_old M.w e w q hq
 have hsz := Lib.bytesWorld_size M.w e w
 have hext := world_ext (M := M) (w' := Lib.bytesWorld M.w e w) rfl rfl rfl (Nat.le_succ _) (by omega) hnew
 have hok := world_ok hr.ok hext (by omega) hnew
 have hr1 := hr.step0 (M' := ⟨M.μ, M.H, Lib.bytesWorld M.w e w, M.free⟩) (hp := s.hp) hr.hp hok hext
 have hnl : ¬ M.live M.w.heap.size := fun hlv => by have := live_lt hr.ok (b := M.w.heap.size) hlv; omega
 let M' : Mem := ⟨M.μ, M.H, Lib.bytesWorld M.w e w, fun q => M.free q ∨ q = M.w.heap.size⟩
 have hsame : Same ⟨M.μ, M.H, Lib.bytesWorld M.w e w, M.free⟩ M' := ⟨rfl, rfl, fun _ q => .inl q, fun q hq => hq.imp id fun e9 => by
  subst e9
  exact ⟨by show _ < (Lib.bytesWorld M.w e w).heap.size; omega, hnl⟩, fun _ _ _ _ h => h, fun _ _ _ _ h => h⟩
 have hr2 : Rel M' s a := hsame.rel hr1 (Nat.le_refl _)
 have hext2 : Ext big M0 M' := by
  have h1 := he.trans (hext.mono fun x hx => by cases hx)
  exact ⟨⟨h1.os, h1.tape, h1.output, h1.drawn, h1.size, fun q hq hl => h1.still q hq hl, fun q hq => .inl (h1.free_ q hq), fun q hq => by
   rcases hq with hq | rfl
   ·exact h1.only q hq
   ·exact .inr (.inr he.size)⟩, fun x o hX hx => h1.ids x o hX hx⟩
 have hv : AVR M' (.one (.ro (.ints .u8 (bts w)))) (.slice (some ⟨M.w.heap.size, 0, none⟩) w.size (grownCap M.w w.size 0 e)) := by
  have hlen : (bts w).length = w.size := bts_length w
  refine ⟨some ⟨M.w.heap.size, 0, none⟩, grownCap M.w w.size 0 e, ?_, ?_, grownCap_le_maxLen M.w w.size 0 e hw, .inr ⟨M.w.heap.size, 0, rfl, ⟨.inr rfl, hnl⟩, fun i hi j hj => ?_⟩⟩
  ·show _ = Value.slice _ (bts w).length _
   rw [hlen]
  ·show (bts w).length ≤ _
   rw [hlen]
   exact grownCap_ge M.w w.size 0 e
  ·have hi' : i < w.size := by rw [← hlen]; exact hi
   have hj' : j = 0 := by have : j < 1 := hj; omega
   subst hj'
   refine ⟨_, ?_, rfl⟩
   have h9 := Lib.bytesWorld_cell M.w e w i hi'
   show M'.w.cell? ⟨M.w.heap.size, 0 + (i * 1 + 0), none⟩ = some (Value.int .u8 ((bts w).getD i 0))
   rw [show 0 + (i * 1 + 0) = i by omega]
   refine h9.trans ?_
   show some (Value.int .u8 _) = some (Value.int .u8 ((bts w).getD i 0))
   congr 2
   obtain ⟨_, g2⟩ := bts_at hi'
   rw [← g2]
   have hi2 : i < w.data.toList.length := by rw [Array.length_toList]; exact hi'
   rw [List.getD_eq_getElem?_getD, List.getElem?_eq_getElem hi2]
   rfl
 have hr3 := hr2.put (dst := o.dst) (v := .one (.ro (.ints .u8 (bts w)))) (u := .slice (some ⟨M.w.heap.size, 0, none⟩) w.size (grownCap M.w w.size 0 e)) (show putD o.dst _ s.n s.tm = some (ins d (.one (.ro (.ints .u8 (bts w)))) s.tm) by rw [hd]; simp only [putD, hlt, cond_true]) hv
 have hgo := hk.run M0 M' _ hext2 hr3
 rw [hd0] at hgo
 exact hgo⟩
end
end Go.Ab
namespace Go.Ab
def InR (n : Int) (es : List Arc) : Prop := ∀ a ∈ es, 0 ≤ a.src ∧ a.src < n ∧ 0 ≤ a.dst ∧ a.dst < n
def wk (es : List Arc) : Nat → Int → Int → Bool
 | 0, u, v => decide (u = v)
 | k + 1, u, v => es.any fun a => decide (a.src = u) && wk es k a.dst v
inductive Wm (es : List Arc) (m : Int) : Int → Int → Nat → Prop
 | nil (u : Int) : Wm es m u u 0
 | arc {a : Arc} (h : a ∈ es) : Wm es m a.src a.dst 1
 | join {u w v : Int} {i j : Nat} (h0 : 0 ≤ w) (h1 : w < m) (h2 : Wm es m u w i) (h3 : Wm es m w v j) : Wm es m u v (i + j)
def wlim : Nat := 4097
def dist (es : List Arc) (u v : Int) : Int := match (List.range wlim).find? (fun k => wk es k u v) with | some k => (k : Int) | none => 1099511627776
theorem find_range (p : Nat → Bool) (n : Nat) : (∃ k, (List.range n).find? p = some k ∧ k < n ∧ p k = true ∧ ∀ j, j < k → p j = false) ∨ ((List.range n).find? p = none ∧ ∀ j, j < n → p j = false) := by
 induction n with
 | zero => exact .inr ⟨rfl, fun j hj => by omega⟩
 | succ n ih =>
  rw [List.range_succ, List.find?_append]
  rcases ih with ⟨k, e, h1, h2, h3⟩ | ⟨e, h1⟩
  ·exact .inl ⟨k, by rw [e]; rfl, by omega, h2, h3⟩
  ·rw [e, Option.none_or, List.find?_singleton]
   by_cases hp : p n = true
   ·exact .inl ⟨n, by rw [if_pos hp], by omega, hp, h1⟩
   ·refine .inr ⟨by rw [if_neg hp], fun j hj => ?_⟩
    rcases Nat.lt_succ_iff_lt_or_eq.1 hj with h | h
    ·exact h1 j h
    ·subst h; simpa using hp
def at2 (D : List (List Int)) (u v : Nat) : Int := (D.getD u []).getD v 0
structure Sq (n : Nat) (D : List (List Int)) : Prop where
 len : D.length = n
 row : ∀ r, r < n → (D.getD r []).length = n
def Sound (n : Nat) (es : List Arc) (D : List (List Int)) : Prop := ∀ u v : Nat, u < n → v < n → 0 ≤ at2 D u v ∧ at2 D u v ≤ 1099511627776 ∧ (at2 D u v = 1099511627776 ∨ ∃ k : Nat, at2 D u v = k ∧ wk es k u v = true)
structure Arcs1 (n : Nat) (es : List Arc) (D : List (List Int)) (k : Nat) : Prop where
 sq : Sq n D
 sound : Sound n es D
 self : ∀ u, u < n → at2 D u u ≤ 0
 arcs : ∀ j, j < k → at2 D (es.getD j default).src.toNat (es.getD j default).dst.toNat ≤ 1
def Comp (n : Nat) (es : List Arc) (D : List (List Int)) (m : Nat) : Prop := ∀ (u v : Nat) (k : Nat), u < n → v < n → Wm es m u v k → at2 D u v ≤ k
def Done (n : Nat) (es : List Arc) (D : List (List Int)) (m i k : Nat) : Prop := ∀ (u v a b : Nat), u < n → v < n → (u < i ∨ (u = i ∧ v < k)) → Wm es m u m a → Wm es m m v b → at2 D u v ≤ (a : Int) + b
structure Ways1 (n : Nat) (es : List Arc) (D : List (List Int)) (m i k : Nat) : Prop where
 sq : Sq n D
 sound : Sound n es D
 comp : Comp n es D m
 done : Done n es D m i k
end Go.Ab
namespace Go.Ab
def within (es : List Arc) (k : Nat) (u : Int) (v : Nat) : Bool := (List.range (k + 1)).any fun j => wk es j u v
structure Lab (n : Int) (es : List Arc) (o : List Int) : Prop where
 len : o.length = n.toNat
 at_ : ∀ v : Nat, v < n.toNat → 0 ≤ o.getD v 0 ∧ o.getD v 0 < n ∧ ∃ k, wk (bothA es) k v (o.getD v 0) = true
structure Round (es : List Arc) (o0 o : List Int) (i : Nat) : Prop where
 le : ∀ v, o.getD v 0 ≤ o0.getD v 0
 arcs : ∀ j, j < i → o.getD (es.getD j default).src.toNat 0 ≤ o0.getD (es.getD j default).dst.toNat 0 ∧ o.getD (es.getD j default).dst.toNat 0 ≤ o0.getD (es.getD j default).src.toNat 0
end Go.Ab
namespace Go.Ab
structure Bfs2 (n s : Int) (es : List Arc) (fr by_ todo : List Int) : Prop where
 len1 : fr.length = n.toNat
 len2 : by_.length = n.toNat
 src : fr.getD s.toNat 0 = 0
 at_ : ∀ v : Nat, v < n.toNat → fr.getD v 0 = -1 ∨ (0 ≤ fr.getD v 0 ∧ wk es (fr.getD v 0).toNat s v = true ∧ (fr.getD v 0 = 0 → (v : Int) = s) ∧
  (0 < fr.getD v 0 → 0 ≤ by_.getD v 0 ∧ by_.getD v 0 < es.length ∧ (es.getD (by_.getD v 0).toNat default).dst = v ∧ fr.getD (es.getD (by_.getD v 0).toNat default).src.toNat 0 = fr.getD v 0 - 1))
 queue : ∀ u ∈ todo, 0 ≤ u ∧ u < n ∧ 0 ≤ fr.getD u.toNat 0
 sorted : todo.Pairwise (fun a b => fr.getD a.toNat 0 ≤ fr.getD b.toNat 0)
 front : 0 < todo.length → ∀ v : Nat, v < n.toNat → fr.getD v 0 ≤ fr.getD (todo.getD 0 0).toNat 0 + 1
 closed : ∀ v : Nat, v < n.toNat → 0 ≤ fr.getD v 0 → (v : Int) ∉ todo → ∀ a ∈ es, a.src = v → 0 ≤ fr.getD a.dst.toNat 0 ∧ fr.getD a.dst.toNat 0 ≤ fr.getD v 0 + 1
structure Seen (es : List Arc) (fr : List Int) (at_ : Int) (i : Nat) : Prop where
 arcs : ∀ j, j < i → (es.getD j default).src = at_ → 0 ≤ fr.getD (es.getD j default).dst.toNat 0 ∧ fr.getD (es.getD j default).dst.toNat 0 ≤ fr.getD at_.toNat 0 + 1
def farAt (es : List Arc) (s : Int) (v : Nat) : Int := if 100 < dist es s v then -1 else dist es s v
def ByOk (n : Int) (es : List Arc) (s : Int) (by_ : List Int) : Prop := by_.length = n.toNat ∧ ∀ v : Nat, v < n.toNat → (farAt es s v = 0 → (v : Int) = s) ∧ (0 < farAt es s v → 0 ≤ by_.getD v 0 ∧ by_.getD v 0 < es.length ∧ (es.getD (by_.getD v 0).toNat default).dst = v ∧ farAt es s (es.getD (by_.getD v 0).toNat default).src.toNat = farAt es s v - 1)
def isWay (es : List Arc) : List Int → Int → Int → Bool
 | [], s, t => decide (s = t)
 | k :: r, s, t => decide (0 ≤ k ∧ k < es.length ∧ (es.getD k.toNat default).src = s) && isWay es r (es.getD k.toNat default).dst t
structure FarOk (n : Int) (es : List Arc) (s : Int) : Prop where
 ok : GOk n es (-10000)
 s0 : 0 ≤ s
 s1 : s < n
theorem way_step {n s t0 c k : Int} {es : List Arc} {by_ o : List Int} (hA : InR n es) (hB : ByOk n es s by_) (hc0 : 0 ≤ c) (hc1 : c < n) (hk0 : 0 ≤ k) (hk : farAt es s c.toNat = k + 1) (hkl : k.toNat < o.length) (hw : isWay es (o.drop (k + 1).toNat) c t0 = true) :
  (0 ≤ by_.getD c.toNat 0 ∧ by_.getD c.toNat 0 < es.length) ∧ (0 ≤ (es.getD (by_.getD c.toNat 0).toNat default).src ∧ (es.getD (by_.getD c.toNat 0).toNat default).src < n) ∧ farAt es s (es.getD (by_.getD c.toNat 0).toNat default).src.toNat = k ∧
   isWay es ((o.set k.toNat (by_.getD c.toNat 0)).drop k.toNat) (es.getD (by_.getD c.toNat 0).toNat default).src t0 = true := by
 obtain ⟨g1, g2, g3, g4⟩ := (hB.2 c.toNat (by omega)).2 (by omega)
 obtain ⟨q1, q2, _, _⟩ := hA _ (getD_mem (d := default) (show (by_.getD c.toNat 0).toNat < es.length by omega))
 refine ⟨⟨g1, g2⟩, ⟨q1, q2⟩, by omega, ?_⟩
 rw [drop_getD _ 0 _ (by rw [List.length_set]; exact hkl), getD_set_self _ _ _ _ hkl, List.drop_set_of_lt (by omega)]
 have e : k.toNat + 1 = (k + 1).toNat := by omega
 rw [e]
 show (decide (0 ≤ by_.getD c.toNat 0 ∧ by_.getD c.toNat 0 < es.length ∧ (es.getD (by_.getD c.toNat 0).toNat default).src = (es.getD (by_.getD c.toNat 0).toNat default).src) && isWay es (o.drop (k + 1).toNat) (es.getD (by_.getD c.toNat 0).toNat default).dst t0) = true
 rw [decide_eq_true ⟨g1, g2, rfl⟩, Bool.true_and, g3, Int.toNat_of_nonneg hc0]
 exact hw
theorem isWay_drop {es : List Arc} {w : List Int} {i : Nat} {c t : Int} (hi : i < w.length) : isWay es (w.drop i) c t = (decide (0 ≤ w.getD i 0 ∧ w.getD i 0 < es.length ∧ (es.getD (w.getD i 0).toNat default).src = c) && isWay es (w.drop (i + 1)) (es.getD (w.getD i 0).toNat default).dst t) := by
 rw [drop_getD w 0 i hi]; rfl
end Go.Ab
namespace Go.Ab
variable {B W arcs f left : List Int} {i j m : Nat} {es : List Arc} {a c k n s t v value x : Int} {p : Int × List Int} {rounds ways : List (Int × List Int)}
structure Chn (es : List Arc) (left : List Int) (B W : List Int) : Prop where
 wl : W.length = B.length + 1
 nd : (W.take B.length).Nodup
 st : ∀ j, j < B.length → 0 ≤ B.getD j 0 ∧ B.getD j 0 < es.length ∧ (es.getD (B.getD j 0).toNat default).src = W.getD j 0 ∧ (es.getD (B.getD j 0).toNat default).dst = W.getD (j + 1) 0 ∧ 0 < left.getD (B.getD j 0).toNat 0
theorem nodup_at (hn : W.Nodup) (hi : i < j) (hj : j < W.length) : W.getD i 0 ≠ W.getD j 0 := fun e => by
 rw [getD_lt _ _ _ hj, getD_lt _ _ _ (by omega)] at e
 exact List.pairwise_iff_getElem.1 hn i j (by omega) hj hi e
theorem take_at (h : i < m) : (W.take m).getD i 0 = W.getD i 0 := by
 simp only [List.getD_eq_getElem?_getD, List.getElem?_take, h, if_true]
theorem Chn.way (h : Chn es left B W) : ∀ m i, i + m = B.length → isWay es (B.drop i) (W.getD i 0) (W.getD B.length 0) = true
 | 0, i, hi => by
  rw [List.drop_of_length_le (by omega), show i = B.length by omega]
  simp [isWay]
 | m + 1, i, hi => by
  have hl : i < B.length := by omega
  obtain ⟨q1, q2, q3, q4, _⟩ := h.st i hl
  rw [isWay_drop hl, q4, h.way m (i + 1) (by omega), Bool.and_true]
  exact decide_eq_true ⟨q1, q2, q3⟩
theorem Chn.nodup (h : Chn es left B W) : B.Nodup := by
 refine List.pairwise_iff_getElem.2 fun i j hi hj hij e => ?_
 have h1 := (h.st i hi).2.2.1
 have h2 := (h.st j hj).2.2.1
 rw [getD_lt _ _ _ hi, e, ← getD_lt B 0 j hj, h2] at h1
 have hl : j < (W.take B.length).length := by rw [List.length_take, h.wl]; omega
 have := nodup_at h.nd hij hl
 rw [take_at hi, take_at hj] at this
 exact this h1.symm
structure Pc (es : List Arc) (p : Int × List Int) (s t : Int) : Prop where
 ne : p.2 ≠ []
 nd : p.2.Nodup
 kr : ∀ k ∈ p.2, 0 ≤ k ∧ k < es.length
 a1 : 1 ≤ p.1
 way : isWay es p.2 s t = true
def noLoop (es : List Arc) (k : Int) : Prop := (es.getD k.toNat default).src ≠ (es.getD k.toNat default).dst
structure PieceOk (es : List Arc) (left : List Int) (p : Int × List Int) (s t : Int) : Prop extends Pc es p s t where
 le : ∀ k ∈ p.2, p.1 ≤ left.getD k.toNat 0
 zero : ∃ k ∈ p.2, left.getD k.toNat 0 = p.1
 loop : (p.2.length = 1 ∧ s = t) ∨ ∀ k ∈ p.2, noLoop es k
def AmOk (left arcs : List Int) (m : Int) : Prop := (∃ k ∈ arcs, left.getD k.toNat 0 = m) ∧ ∀ k ∈ arcs, m ≤ left.getD k.toNat 0
theorem Chn.piece {m : Int} (h : Chn es left B W) (hi : i < B.length) (hm : AmOk left (B.drop i) m) (hl : (∀ j, j < B.length → W.getD j 0 ≠ W.getD B.length 0) ∨ W.getD i 0 = W.getD B.length 0) :
  PieceOk es left (m, B.drop i) (W.getD i 0) (W.getD B.length 0) := by
 have hmem : ∀ k ∈ B.drop i, ∃ j, i ≤ j ∧ j < B.length ∧ B.getD j 0 = k := fun k hk => by
  obtain ⟨j, hj, e⟩ := mem_getD 0 hk
  rw [List.length_drop] at hj
  refine ⟨i + j, by omega, by omega, ?_⟩
  rw [← e]
  simp only [List.getD_eq_getElem?_getD, List.getElem?_drop]
 have hpos : ∀ k ∈ B.drop i, 0 < left.getD k.toNat 0 := fun k hk => by
  obtain ⟨j, _, hj, e⟩ := hmem k hk
  rw [← e]; exact (h.st j hj).2.2.2.2
 refine ⟨⟨fun e => ?_, h.nodup.sublist (List.drop_sublist _ _), fun k hk => ?_, ?_, h.way (B.length - i) i (by omega)⟩, hm.2, hm.1, ?_⟩
 ·have := congrArg List.length e
  simp only [List.length_drop, List.length_nil] at this
  omega
 ·obtain ⟨j, _, hj, e⟩ := hmem k hk
  rw [← e]; exact ⟨(h.st j hj).1, (h.st j hj).2.1⟩
 ·obtain ⟨k, hk, e⟩ := hm.1
  have := hpos k hk
  simp only
  omega
 ·by_cases hc : i + 1 = B.length ∧ W.getD i 0 = W.getD B.length 0
  ·exact .inl ⟨by simp only [List.length_drop]; omega, hc.2⟩
  ·right
   intro k hk
   obtain ⟨j, hj1, hj, e⟩ := hmem k hk
   obtain ⟨_, _, q3, q4, _⟩ := h.st j hj
   unfold noLoop
   rw [← e, q3, q4]
   by_cases hlast : j + 1 = B.length
   ·rw [hlast]
    rcases hl with hl | hl
    ·exact hl j hj
    ·by_cases hij : i = j
     ·exact absurd ⟨by omega, hl⟩ hc
     ·rw [← hl]
      have hlen : j < (W.take B.length).length := by rw [List.length_take, h.wl]; omega
      have := nodup_at h.nd (show i < j by omega) hlen
      rw [take_at (by omega), take_at hj] at this
      exact fun q => this q.symm
   ·have hlen : j + 1 < (W.take B.length).length := by rw [List.length_take, h.wl]; omega
    have := nodup_at h.nd (show j < j + 1 by omega) hlen
    rw [take_at hj, take_at (by omega)] at this
    exact this
theorem Chn.start (x : Int) : Chn es left [] [x] := ⟨rfl, by simp, fun j hj => by simp at hj⟩
theorem snoc_at (l : List Int) (x : Int) (j : Nat) : (l ++ [x]).getD j 0 = if j < l.length then l.getD j 0 else if j = l.length then x else 0 := by
 simp only [List.getD_eq_getElem?_getD, List.getElem?_append]
 split
 ·rfl
 ·rename_i h
  by_cases e : j = l.length
  ·subst e; simp
  ·rw [if_neg e, List.getElem?_eq_none (by simp; omega)]; rfl
theorem Chn.snoc (h : Chn es left B W) (hW : W.Nodup) (k0 : 0 ≤ k) (k1 : k < es.length) (hs : (es.getD k.toNat default).src = W.getD B.length 0) (hp : 0 < left.getD k.toNat 0) :
  Chn es left (B ++ [k]) (W ++ [(es.getD k.toNat default).dst]) := by
 have hwl := h.wl
 refine ⟨by simp [hwl], ?_, fun j hj => ?_⟩
 ·rw [List.length_append, List.length_singleton, ← hwl, List.take_left]; exact hW
 ·rw [List.length_append, List.length_singleton] at hj
  rw [snoc_at, snoc_at, snoc_at]
  by_cases e : j < B.length
  ·rw [if_pos e, if_pos (by omega), if_pos (by omega)]; exact h.st j e
  ·have e2 : j = B.length := by omega
   subst e2
   rw [if_neg (by omega), if_pos rfl, if_pos (by omega), if_neg (by omega), if_pos (by omega)]
   exact ⟨k0, k1, hs, rfl, hp⟩
def seenOf (W : List Int) : List (Int × Int) := (List.range W.length).map fun j => (W.getD j 0, (j : Int))
theorem seenOf_snoc (W : List Int) (x : Int) : seenOf (W ++ [x]) = seenOf W ++ [(x, (W.length : Int))] := by
 unfold seenOf
 rw [List.length_append, List.length_singleton, List.range_succ, List.map_append]
 congr 1
 ·refine List.map_congr_left fun j hj => ?_
  rw [snoc_at, if_pos (List.mem_range.1 hj)]
 ·simp only [List.map_cons, List.map_nil]
  rw [snoc_at, if_neg (by omega), if_pos rfl]
theorem findD_some : ∀ {l : List (Int × Int)}, findD x l = some v → (x, v) ∈ l
 | [], h => by cases h
 | p :: r, h => by
  simp only [findD] at h
  split at h
  ·rename_i e; cases h; subst e; exact List.mem_cons_self
  ·exact List.mem_cons_of_mem _ (findD_some h)
theorem seen_none (h : findD x (seenOf W) = none) : x ∉ W := fun hx => by
 obtain ⟨j, hj, e⟩ := mem_getD 0 hx
 have : ∀ {l : List (Int × Int)}, findD x l = none → ∀ p ∈ l, p.1 ≠ x := by
  intro l
  induction l with
  | nil => intro _ p hp; cases hp
  | cons q r ih =>
   intro h p hp
   simp only [findD] at h
   split at h
   ·cases h
   ·rename_i hne
    rcases List.mem_cons.1 hp with rfl | hp
    ·exact hne
    ·exact ih h p hp
 exact this h (W.getD j 0, (j : Int)) (List.mem_map.2 ⟨j, List.mem_range.2 hj, rfl⟩) e
theorem seen_some (h : findD x (seenOf W) = some v) : 0 ≤ v ∧ v < W.length ∧ W.getD v.toNat 0 = x := by
 obtain ⟨j, hj, e⟩ := List.mem_map.1 (findD_some h)
 have := List.mem_range.1 hj
 cases e
 exact ⟨by omega, by omega, by simp⟩
def takeOff (a : Int) (left arcs : List Int) : List Int := arcs.foldl (fun l k => l.set k.toNat (l.getD k.toNat 0 - a)) left
theorem takeOff_len (a : Int) : ∀ (arcs left : List Int), (takeOff a left arcs).length = left.length
 | [], _ => rfl
 | k :: r, left => by
  show (takeOff a (left.set _ _) r).length = _
  rw [takeOff_len a r, List.length_set]
theorem takeOff_other (a : Int) : ∀ (arcs left : List Int), (∀ k ∈ arcs, k.toNat ≠ j) → (takeOff a left arcs).getD j 0 = left.getD j 0
 | [], _, _ => rfl
 | k :: r, left, h => by
  show (takeOff a (left.set _ _) r).getD j 0 = _
  rw [takeOff_other a r _ (fun q hq => h q (List.mem_cons_of_mem _ hq)), getD_set_ne _ _ _ _ _ (h k List.mem_cons_self)]
theorem takeOff_at (a : Int) : ∀ (arcs left : List Int), arcs.Nodup → (∀ k ∈ arcs, 0 ≤ k ∧ k < left.length) → (takeOff a left arcs).getD j 0 = left.getD j 0 - (if (j : Int) ∈ arcs then a else 0)
 | [], left, _, _ => by simp [takeOff]
 | k :: r, left, hn, hr => by
  have hn' := List.nodup_cons.1 hn
  have hk := hr k List.mem_cons_self
  show (takeOff a (left.set _ _) r).getD j 0 = _
  by_cases e : k.toNat = j
  ·have hjr : (j : Int) ∉ r := by rw [show (j : Int) = k by omega]; exact hn'.1
   rw [takeOff_other a r _ (fun q hq => by
    intro e2
    have := hr q (List.mem_cons_of_mem _ hq)
    exact hn'.1 (by rw [show k = q by omega]; exact hq)), e, getD_set_self _ _ _ _ (by omega), if_pos (by rw [show (j : Int) = k by omega]; exact List.mem_cons_self)]
  ·rw [takeOff_at a r _ hn'.2 (fun q hq => by rw [List.length_set]; exact hr q (List.mem_cons_of_mem _ hq)), getD_set_ne _ _ _ _ _ e]
   have : ((j : Int) ∈ k :: r) ↔ (j : Int) ∈ r := by
    rw [List.mem_cons]
    constructor
    ·rintro (q | q)
     ·omega
     ·exact q
    ·exact .inr
   simp only [this]
theorem takeOff_gone (a : Int) (v : Int) : ∀ (arcs left : List Int) (s t : Int), left.length = es.length → isWay es arcs s t = true →
  gone es (takeOff a left arcs) v = gone es left v - (if s = v then a else 0) + (if t = v then a else 0)
 | [], left, s, t, _, h => by
  simp only [isWay, decide_eq_true_eq] at h
  subst h
  show gone es left v = _
  omega
 | k :: r, left, s, t, hl, h => by
  simp only [isWay, Bool.and_eq_true, decide_eq_true_eq] at h
  obtain ⟨⟨h1, h2, h3⟩, h4⟩ := h
  show gone es (takeOff a (left.set _ _) r) v = _
  rw [takeOff_gone a v r _ _ t (by rw [List.length_set]; exact hl) h4, gone_set _ v (by omega) hl, h3]
  by_cases e1 : s = v <;> by_cases e2 : (es.getD k.toNat default).dst = v <;> by_cases e3 : t = v <;> simp only [e1, e2, e3, if_true, if_false] <;> omega
def posL (l : List Int) : List Nat := (List.range l.length).filter fun j => decide (0 < l.getD j 0)
theorem mem_posL {l : List Int} : j ∈ posL l ↔ j < l.length ∧ 0 < l.getD j 0 := by
 unfold posL
 rw [List.mem_filter, List.mem_range, decide_eq_true_eq]
theorem posL_nodup (l : List Int) : (posL l).Nodup := List.nodup_range.filter _
theorem posL_le (l : List Int) : (posL l).length ≤ l.length := by
 have := List.length_filter_le (fun j => decide (0 < l.getD j 0)) (List.range l.length)
 rw [List.length_range] at this
 exact this
theorem posL_less {l m : List Int} {D : List Nat} (hD : D.Nodup) (h1 : ∀ j, j < m.length → 0 < m.getD j 0 → j < l.length ∧ 0 < l.getD j 0) (h2 : ∀ j ∈ D, j < l.length ∧ 0 < l.getD j 0 ∧ ¬ 0 < m.getD j 0) : D.length + (posL m).length ≤ (posL l).length := by
 rw [← List.length_append]
 refine nodup_len (List.nodup_append.2 ⟨hD, posL_nodup m, fun a ha b hb e => ?_⟩) fun j hj => ?_
 ·subst e; exact (h2 a ha).2.2 (mem_posL.1 hb).2
 ·rcases List.mem_append.1 hj with hj | hj
  ·exact mem_posL.2 ⟨(h2 j hj).1, (h2 j hj).2.1⟩
  ·have := mem_posL.1 hj
   exact mem_posL.2 (h1 j this.1 this.2)
def usedOf (k : Nat) : List (Int × List Int) → Int
 | [] => 0
 | p :: r => (if (k : Int) ∈ p.2 then p.1 else 0) + usedOf k r
theorem usedOf_snoc (k : Nat) (p : Int × List Int) : ∀ l : List (Int × List Int), usedOf k (l ++ [p]) = usedOf k l + (if (k : Int) ∈ p.2 then p.1 else 0)
 | [] => by simp [usedOf]
 | q :: r => by simp only [List.cons_append, usedOf, usedOf_snoc k p r]; omega
def sumOf : List (Int × List Int) → Int
 | [] => 0
 | p :: r => p.1 + sumOf r
theorem sumOf_snoc (p : Int × List Int) : ∀ l : List (Int × List Int), sumOf (l ++ [p]) = sumOf l + p.1
 | [] => by simp [sumOf]
 | q :: r => by simp only [List.cons_append, sumOf, sumOf_snoc p r]; omega
def Open (es : List Arc) (left : List Int) : Prop := ∃ k : Nat, k < es.length ∧ noLoop es (k : Int) ∧ 0 < left.getD k 0
structure Spl (n s t : Int) (es : List Arc) (f left : List Int) (value : Int) (ways rounds : List (Int × List Int)) : Prop where
 ll : left.length = es.length
 nn : ∀ j, j < es.length → 0 ≤ left.getD j 0
 sum : ∀ j, j < es.length → left.getD j 0 + usedOf j ways + usedOf j rounds = f.getD j 0
 cons : ∀ v, v ≠ s → v ≠ t → gone es left v = 0
 gs : gone es left s = value
 gt : gone es left t = -value
 v0 : 0 ≤ value
 tot : sumOf ways + value = gone es f s
 okw : ∀ p ∈ ways, Pc es p s t
 okr : ∀ p ∈ rounds, ∃ x, Pc es p x x
 cnt : ways.length + rounds.length + (posL left).length ≤ es.length ∨ (value = 0 ∧ ways.length + rounds.length + (posL left).length ≤ es.length + 1 ∧ Open es left)
theorem taken_facts (hp : PieceOk es left p s t) (hl : left.length = es.length) (hn : ∀ j, j < es.length → 0 ≤ left.getD j 0) (ha0 : 0 ≤ a) (ha : a ≤ p.1) :
  (takeOff a left p.2).length = es.length ∧ (∀ j, (takeOff a left p.2).getD j 0 = left.getD j 0 - (if (j : Int) ∈ p.2 then a else 0)) ∧ (∀ j, j < es.length → 0 ≤ (takeOff a left p.2).getD j 0 ∧ (takeOff a left p.2).getD j 0 ≤ left.getD j 0) := by
 have h1 : ∀ j, (takeOff a left p.2).getD j 0 = left.getD j 0 - (if (j : Int) ∈ p.2 then a else 0) := fun j => takeOff_at a p.2 left hp.nd (fun k hk => by rw [hl]; exact hp.kr k hk)
 refine ⟨by rw [takeOff_len]; exact hl, h1, fun j hj => ?_⟩
 rw [h1]
 have := hn j hj
 split
 ·rename_i hm
  have := hp.le _ hm
  rw [Int.toNat_natCast] at this
  omega
 ·omega
theorem taken_less (hp : PieceOk es left p s t) (hl : left.length = es.length) (hn : ∀ j, j < es.length → 0 ≤ left.getD j 0) : (posL (takeOff p.1 left p.2)).length + 1 ≤ (posL left).length := by
 obtain ⟨h1, h2, h3⟩ := taken_facts hp hl hn (by have := hp.a1; omega) (Int.le_refl _)
 obtain ⟨k, hk, e⟩ := hp.zero
 have hkr := hp.kr k hk
 have hkc : ((k.toNat : Nat) : Int) = k := by omega
 have := posL_less (l := left) (m := takeOff p.1 left p.2) (D := [k.toNat]) (by simp) (fun j hj hj2 => by
  rw [h1] at hj
  have := h3 j hj
  exact ⟨by omega, by omega⟩) (fun j hj => by
  have := List.mem_singleton.1 hj
  subst this
  rw [h2, hkc, if_pos hk, e]
  have := hp.a1
  exact ⟨by omega, by omega, by omega⟩)
 simp only [List.length_singleton] at this
 omega
theorem taken_open (hp : PieceOk es left p x x) (hl : left.length = es.length) (hn : ∀ j, j < es.length → 0 ≤ left.getD j 0) (ho : Open es left) :
  Open es (takeOff p.1 left p.2) ∨ (posL (takeOff p.1 left p.2)).length + 2 ≤ (posL left).length := by
 obtain ⟨h1, h2, h3⟩ := taken_facts hp hl hn (by have := hp.a1; omega) (Int.le_refl _)
 by_cases hc : Open es (takeOff p.1 left p.2)
 ·exact .inl hc
 right
 have hall : ∀ k : Nat, k < es.length → noLoop es (k : Int) → ¬ 0 < (takeOff p.1 left p.2).getD k 0 := fun k hk hnl hpos => hc ⟨k, hk, hnl, hpos⟩
 have hone : ∀ y, p.2 = [y] → ¬ noLoop es y := fun y hy => by
  have hw := hp.way
  rw [hy] at hw
  simp only [isWay, Bool.and_eq_true, decide_eq_true_eq] at hw
  unfold noLoop
  rw [hw.1.2.2, hw.2]
  exact fun q => q rfl
 have hlen : p.2.length ≠ 1 := fun hlen => by
  obtain ⟨y, hy⟩ := List.length_eq_one_iff.1 hlen
  obtain ⟨k, hk1, hk2, hk3⟩ := ho
  have hk4 := hall k hk1 hk2
  rw [h2] at hk4
  have hm : (k : Int) ∈ p.2 := by
   refine Classical.byContradiction fun q => hk4 ?_
   rw [if_neg q]; omega
  rw [hy] at hm
  have := List.mem_singleton.1 hm
  exact hone y hy (this ▸ hk2)
 have hlen2 : 2 ≤ p.2.length := by
  have := List.length_pos_iff.2 hp.ne
  omega
 have hnl : ∀ k ∈ p.2, noLoop es k := by
  rcases hp.loop with q | q
  ·exact absurd q.1 hlen
  ·exact q
 have := posL_less (l := left) (m := takeOff p.1 left p.2) (D := p.2.map Int.toNat) (by
  refine List.pairwise_map.2 (hp.nd.imp_of_mem fun {a b} ha hb hab e => hab ?_)
  have := hp.kr a ha
  have := hp.kr b hb
  omega) (fun j hj hj2 => by
  rw [h1] at hj
  have := h3 j hj
  exact ⟨by omega, by omega⟩) (fun j hj => by
  obtain ⟨k, hk, rfl⟩ := List.mem_map.1 hj
  have hkr := hp.kr k hk
  have hle := hp.le k hk
  have ha1 := hp.a1
  refine ⟨by omega, by omega, hall _ (by omega) ?_⟩
  rw [show ((k.toNat : Nat) : Int) = k by omega]
  exact hnl k hk)
 rw [List.length_map] at this
 omega
theorem taken_mono (hp : PieceOk es left p s t) (hl : left.length = es.length) (hn : ∀ j, j < es.length → 0 ≤ left.getD j 0) (ha0 : 0 ≤ a) (ha : a ≤ p.1) : (posL (takeOff a left p.2)).length ≤ (posL left).length := by
 obtain ⟨h1, h2, h3⟩ := taken_facts hp hl hn ha0 ha
 have := posL_less (l := left) (m := takeOff a left p.2) (D := []) List.nodup_nil (fun j hj hj2 => by
  rw [h1] at hj
  have := h3 j hj
  exact ⟨by omega, by omega⟩) (fun j hj => by cases hj)
 simpa using this
theorem Spl.way_step (h : Spl n s t es f left value ways rounds) (hp : PieceOk es left p s t) (hst : s ≠ t) (hv : 0 < value) (ha : a = min p.1 value) :
  Spl n s t es f (takeOff a left p.2) (value - a) (ways ++ [(a, p.2)]) rounds := by
 have ha1 := hp.a1
 obtain ⟨h1, h2, h3⟩ := taken_facts hp h.ll h.nn (show 0 ≤ a by omega) (show a ≤ p.1 by omega)
 have hg := fun v => takeOff_gone (es := es) a v p.2 left s t h.ll hp.way
 refine ⟨h1, fun j hj => (h3 j hj).1, fun j hj => ?_, fun v v1 v2 => ?_, ?_, ?_, by omega, ?_, fun q hq => ?_, h.okr, ?_⟩
 ·have := h.sum j hj
  rw [h2, usedOf_snoc]
  simp only
  omega
 ·rw [hg, h.cons v v1 v2, if_neg (Ne.symm v1), if_neg (Ne.symm v2)]; omega
 ·rw [hg, h.gs, if_pos rfl, if_neg (Ne.symm hst)]; omega
 ·rw [hg, h.gt, if_neg hst, if_pos rfl]; omega
 ·have := h.tot
  rw [sumOf_snoc]
  simp only
  omega
 ·rcases List.mem_append.1 hq with hq | hq
  ·exact h.okw q hq
  ·have := List.mem_singleton.1 hq
   subst this
   exact ⟨hp.ne, hp.nd, hp.kr, by show 1 ≤ a; omega, hp.way⟩
 ·rw [List.length_append, List.length_singleton]
  rcases h.cnt with c | ⟨c, _⟩
  ·by_cases e : a = p.1
   ·have := taken_less hp h.ll h.nn
    rw [← e] at this
    left; omega
   ·have := taken_mono hp h.ll h.nn (show 0 ≤ a by omega) (show a ≤ p.1 by omega)
    right
    refine ⟨by omega, by omega, ?_⟩
    have hnl : ∀ k ∈ p.2, noLoop es k := by
     rcases hp.loop with q | q
     ·exact absurd q.2 hst
     ·exact q
    obtain ⟨k, hk⟩ := List.exists_mem_of_ne_nil _ hp.ne
    have hkr := hp.kr k hk
    have hkc : ((k.toNat : Nat) : Int) = k := by omega
    refine ⟨k.toNat, by omega, by rw [hkc]; exact hnl k hk, ?_⟩
    rw [h2, hkc, if_pos hk]
    have := hp.le k hk
    omega
  ·omega
theorem Spl.round_step (h : Spl n s t es f left value ways rounds) (hp : PieceOk es left p x x) :
  Spl n s t es f (takeOff p.1 left p.2) value ways (rounds ++ [p]) := by
 have ha1 := hp.a1
 obtain ⟨h1, h2, h3⟩ := taken_facts hp h.ll h.nn (show 0 ≤ p.1 by omega) (Int.le_refl _)
 have hg := fun v => takeOff_gone (es := es) p.1 v p.2 left x x h.ll hp.way
 have hg2 : ∀ v, gone es (takeOff p.1 left p.2) v = gone es left v := fun v => by rw [hg]; omega
 have hless := taken_less hp h.ll h.nn
 refine ⟨h1, fun j hj => (h3 j hj).1, fun j hj => ?_, fun v v1 v2 => by rw [hg2]; exact h.cons v v1 v2, by rw [hg2]; exact h.gs, by rw [hg2]; exact h.gt, h.v0, h.tot, h.okw, fun q hq => ?_, ?_⟩
 ·have := h.sum j hj
  rw [h2, usedOf_snoc]
  omega
 ·rcases List.mem_append.1 hq with hq | hq
  ·exact h.okr q hq
  ·have := List.mem_singleton.1 hq
   subst this
   exact ⟨x, hp.toPc⟩
 ·rw [List.length_append, List.length_singleton]
  rcases h.cnt with c | ⟨c, d, o⟩
  ·left; omega
  ·rcases taken_open hp h.ll h.nn o with q | q
   ·exact .inr ⟨c, by omega, q⟩
   ·left; omega
def Goes (es : List Arc) (left : List Int) (t a : Int) : Prop := ∀ v, v ≠ t → (v = a ∨ ∃ k, k < es.length ∧ 0 < left.getD k 0 ∧ (es.getD k default).dst = v) → ∃ k, k < es.length ∧ 0 < left.getD k 0 ∧ (es.getD k default).src = v
theorem gone_noout : ∀ {es : List Arc} {left : List Int}, left.length = es.length → (∀ j, j < es.length → 0 ≤ left.getD j 0) → (∀ j, j < es.length → (es.getD j default).src = v → left.getD j 0 = 0) →
  gone es left v ≤ 0 ∧ ∀ j, j < es.length → (es.getD j default).dst = v → gone es left v ≤ - left.getD j 0
 | [], [], _, _, _ => ⟨by simp [gone], fun j hj => by simp at hj⟩
 | [], x :: l, h, _, _ => by simp at h
 | a :: r, [], h, _, _ => by simp at h
 | a :: r, x :: l, h, hn, hz => by
  have h0 := hn 0 (by simp)
  have z0 := hz 0 (by simp)
  simp only [List.getD_cons_zero] at h0 z0
  obtain ⟨i1, i2⟩ := gone_noout (es := r) (left := l) (by simpa using h) (fun j hj => by have := hn (j + 1) (by simpa using hj); simpa using this) (fun j hj hs => by have := hz (j + 1) (by simpa using hj) (by simpa using hs); simpa using this)
  simp only [gone]
  refine ⟨?_, fun j hj hd => ?_⟩
  ·by_cases e1 : a.src = v <;> by_cases e2 : a.dst = v <;> simp only [e1, e2, if_true, if_false] <;> (try have := z0 e1) <;> omega
  ·cases j with
   | zero =>
    simp only [List.getD_cons_zero] at hd ⊢
    by_cases e1 : a.src = v <;> simp only [e1, hd, if_true, if_false] <;> (try have := z0 e1) <;> omega
   | succ j =>
    simp only [List.getD_cons_succ] at hd ⊢
    have := i2 j (by simpa using hj) hd
    by_cases e1 : a.src = v <;> by_cases e2 : a.dst = v <;> simp only [e1, e2, if_true, if_false] <;> (try have := z0 e1) <;> omega
theorem goes_out (hl : left.length = es.length) (hn : ∀ j, j < es.length → 0 ≤ left.getD j 0) (h : 0 < gone es left v ∨ (0 ≤ gone es left v ∧ ∃ k, k < es.length ∧ 0 < left.getD k 0 ∧ (es.getD k default).dst = v)) :
  ∃ k, k < es.length ∧ 0 < left.getD k 0 ∧ (es.getD k default).src = v := by
 refine Classical.byContradiction fun hc => ?_
 obtain ⟨i1, i2⟩ := gone_noout (v := v) hl hn (fun j hj hs => by
  have := hn j hj
  refine Classical.byContradiction fun q => hc ⟨j, hj, by omega, hs⟩)
 rcases h with h | ⟨h, k, k1, k2, k3⟩
 ·omega
 ·have := i2 k k1 k3; omega
theorem Spl.goes (h : Spl n s t es f left value ways rounds) (hv : 0 < value) : Goes es left t s := fun v hvt hc => by
 have hgs := h.gs
 by_cases e : v = s
 ·subst e; exact goes_out h.ll h.nn (.inl (by omega))
 ·rcases hc with hc | hc
  ·exact absurd hc e
  ·exact goes_out h.ll h.nn (.inr ⟨by rw [h.cons v e hvt]; exact Int.le_refl _, hc⟩)
theorem Spl.goes2 (h : Spl n s t es f left 0 ways rounds) {k : Nat} (hk : k < es.length) (hp : 0 < left.getD k 0) : Goes es left (-1) (es.getD k default).src := fun v hvt hc => by
 have hz : gone es left v = 0 := by
  by_cases e : v = s
  ·rw [e]; exact h.gs
  ·by_cases e2 : v = t
   ·rw [e2, h.gt]; rfl
   ·exact h.cons v e e2
 rcases hc with hc | hc
 ·exact ⟨k, hk, hp, hc.symm⟩
 ·exact goes_out h.ll h.nn (.inr ⟨by omega, hc⟩)
theorem gone_total (h12 : n ≤ 12) : ∀ {es : List Arc} {f : List Int}, (∀ a ∈ es, 0 ≤ a.src ∧ a.src < n ∧ 0 ≤ a.dst ∧ a.dst < n) → nodeSum (gone es f) 0 12 = 0
 | [], _, _ => nodeSum_zero fun j _ _ => by simp [gone]
 | a :: r, [], _ => nodeSum_zero fun j _ _ => by simp [gone]
 | a :: r, x :: f, h => by
  obtain ⟨a1, a2, a3, a4⟩ := h a List.mem_cons_self
  have ih := gone_total h12 (es := r) (f := f) (fun b hb => h b (List.mem_cons_of_mem _ hb))
  have e1 : nodeSum (fun v => if a.src = v then x else 0) 0 12 = x := by
   rw [nodeSum_one (v := a.src) (by omega) (by omega) (fun j _ _ hj => if_neg (Ne.symm hj)), if_pos rfl]
  have e2 : nodeSum (fun v => if a.dst = v then -x else 0) 0 12 = -x := by
   rw [nodeSum_one (v := a.dst) (by omega) (by omega) (fun j _ _ hj => if_neg (Ne.symm hj)), if_pos rfl]
  have e3 : nodeSum (gone (a :: r) (x :: f)) 0 12 = nodeSum (fun v => ((if a.src = v then x else 0) + (if a.dst = v then -x else 0)) + gone r f v) 0 12 := by
   refine nodeSum_congr fun j _ _ => ?_
   simp only [gone]
   by_cases q1 : a.src = (j : Int) <;> by_cases q2 : a.dst = (j : Int) <;> simp only [q1, q2, if_true, if_false] <;> omega
  rw [e3, nodeSum_add, nodeSum_add, e1, e2, ih]
  omega
theorem gone_ends (h : FlOk n s t es f) : (∀ v, v ≠ s → v ≠ t → gone es f v = 0) ∧ gone es f t = - gone es f s := by
 have hok := h.net
 have hne := hok.ne
 have h12 := hok.n2
 have harc : ∀ a ∈ es, 0 ≤ a.src ∧ a.src < n ∧ 0 ≤ a.dst ∧ a.dst < n := fun a ha => by obtain ⟨q1, q2, q3, q4, _⟩ := hok.arc a ha; exact ⟨q1, q2, q3, q4⟩
 have hneg : ∀ v, v < 0 → gone es f v = 0 := by
  intro v hv
  have : ∀ {es : List Arc} {f : List Int}, (∀ a ∈ es, 0 ≤ a.src ∧ a.src < n ∧ 0 ≤ a.dst ∧ a.dst < n) → gone es f v = 0 := by
   intro es
   induction es with
   | nil => intro f _; simp [gone]
   | cons a r ih =>
    intro f h
    cases f with
    | nil => simp [gone]
    | cons x f =>
     obtain ⟨a1, a2, a3, a4⟩ := h a List.mem_cons_self
     simp only [gone]
     rw [if_neg (by omega), if_neg (by omega), ih (fun b hb => h b (List.mem_cons_of_mem _ hb))]
     rfl
  exact this harc
 have hcons : ∀ v, v ≠ s → v ≠ t → gone es f v = 0 := fun v v1 v2 => by
  by_cases e : v < 0
  ·exact hneg v e
  ·by_cases e2 : n ≤ v
   ·exact gone_far harc e2
   ·have := h.kept v.toNat (by omega) (by omega)
    rw [Int.toNat_of_nonneg (by omega)] at this
    exact this
 refine ⟨hcons, ?_⟩
 have htot := gone_total h12 (f := f) harc
 have e3 : nodeSum (gone es f) 0 12 = nodeSum (fun v => (if s = v then gone es f s else 0) + (if t = v then gone es f t else 0)) 0 12 := by
  refine nodeSum_congr fun j _ _ => ?_
  by_cases q1 : s = (j : Int)
  ·rw [if_pos q1, if_neg (by omega), q1]; omega
  ·rw [if_neg q1]
   by_cases q2 : t = (j : Int)
   ·rw [if_pos q2, q2]; omega
   ·rw [if_neg q2]; exact hcons _ (Ne.symm q1) (Ne.symm q2)
 have hs0 := hok.s0
 have hs1 := hok.s1
 have ht0 := hok.t0
 have ht1 := hok.t1
 rw [e3, nodeSum_add, nodeSum_one (v := s) (by omega) (by omega) (fun j _ _ hj => if_neg (Ne.symm hj)), nodeSum_one (v := t) (by omega) (by omega) (fun j _ _ hj => if_neg (Ne.symm hj)), if_pos rfl, if_pos rfl] at htot
 omega
theorem Spl.start (h : FlOk n s t es f) (h0 : 0 ≤ gone es f s) : Spl n s t es f f (gone es f s) [] [] where
 ll := h.fin.len
 nn j hj := (h.fin.at_ j hj).1
 sum j hj := by simp [usedOf]
 cons := (gone_ends h).1
 gs := rfl
 gt := (gone_ends h).2
 v0 := h0
 tot := by simp [sumOf]
 okw p hp := by cases hp
 okr p hp := by cases hp
 cnt := .inl (by have := posL_le f; have := h.fin.len; simp; omega)
theorem sum_nonneg : ∀ {l : List (Int × List Int)}, (∀ p ∈ l, Pc es p s t) → 0 ≤ sumOf l
 | [], _ => by simp [sumOf]
 | p :: r, h => by
  have h1 := (h p List.mem_cons_self).a1
  have h2 := sum_nonneg (fun q hq => h q (List.mem_cons_of_mem _ hq))
  simp only [sumOf]
  omega
def SplitOk (n s t : Int) (es : List Arc) (f : List Int) (ways rounds : List (Int × List Int)) (e : Int) : Prop :=
 (flowErr n s t es f ≠ 0 ∧ e = flowErr n s t es f ∧ ways = [] ∧ rounds = []) ∨ (flowErr n s t es f = 0 ∧ gone es f s < 0 ∧ e = 9 ∧ ways = [] ∧ rounds = []) ∨
 (flowErr n s t es f = 0 ∧ 0 ≤ gone es f s ∧ e = 0 ∧ (∀ p ∈ ways, Pc es p s t) ∧ (∀ p ∈ rounds, ∃ x, Pc es p x x) ∧ (∀ j, j < es.length → usedOf j ways + usedOf j rounds = f.getD j 0) ∧ sumOf ways = gone es f s ∧ ways.length + rounds.length ≤ es.length)
theorem Spl.end_ (h : Spl n s t es f left 0 ways rounds) (hE : flowErr n s t es f = 0) (hz : ∀ j, j < es.length → left.getD j 0 = 0) : SplitOk n s t es f ways rounds 0 := by
 refine .inr (.inr ⟨hE, ?_, rfl, h.okw, h.okr, fun j hj => ?_, ?_, ?_⟩)
 ·have := h.tot
  have hs : ∀ l : List (Int × List Int), (∀ p ∈ l, Pc es p s t) → 0 ≤ sumOf l := by
   intro l
   induction l with
   | nil => intro _; simp [sumOf]
   | cons p r ih =>
    intro hl
    have := (hl p List.mem_cons_self).a1
    have := ih (fun q hq => hl q (List.mem_cons_of_mem _ hq))
    simp only [sumOf]
    omega
  have := hs ways h.okw
  omega
 ·have := h.sum j hj
  have := hz j hj
  omega
 ·have := h.tot; omega
 ·rcases h.cnt with c | ⟨_, _, k, k1, _, k3⟩
  ·omega
  ·have := hz k k1; omega
def srcIs (c : Int) (a : Arc) : Bool := decide (a.src = c)
theorem idxOf_le {α : Type} {p : α → Bool} {d : α} {l : List α} {K : Nat} (hK : K < l.length) (hp : p (l.getD K d) = true) : 0 ≤ idxOf p l ∧ idxOf p l ≤ (K : Int) := by
 induction K using Nat.strongRecOn with
 | ind K ih =>
  by_cases h : ∃ j, j < K ∧ p (l.getD j d) = true
  ·obtain ⟨j, h1, h2⟩ := h
   have := ih j h1 (by omega) h2
   omega
  ·have := idxOf_at (p := p) (d := d) (l := l) (i := K) (fun j hj => by
    cases hh : p (l.getD j d)
    ·rfl
    ·exact absurd ⟨j, hj, hh⟩ h) hK hp
   omega
theorem nodup_int (hn : W.Nodup) (hr : ∀ v ∈ W, 0 ≤ v ∧ v < n) : W.length ≤ n.toNat := by
 have := nodup_len (l := W) (m := (List.range n.toNat).map fun (v : Nat) => (v : Int)) hn (fun x hx => by
  have := hr x hx
  exact List.mem_map.2 ⟨x.toNat, List.mem_range.2 (by omega), by omega⟩)
 simpa using this
theorem piece_round {y m : Int} (hC : Chn es left (B ++ [k]) (W ++ [y])) (hv : findD y (seenOf W) = some v) (hm : AmOk left ((B ++ [k]).drop v.toNat) m) : ∃ x, PieceOk es left (m, (B ++ [k]).drop v.toNat) x x := by
 obtain ⟨h0, h1, h2⟩ := seen_some hv
 have hwl := hC.wl
 simp only [List.length_append, List.length_singleton] at hwl
 have e1 : (W ++ [y]).getD v.toNat 0 = y := by rw [snoc_at, if_pos (by omega)]; exact h2
 have e2 : (W ++ [y]).getD (B ++ [k]).length 0 = y := by rw [snoc_at, List.length_append, List.length_singleton, if_neg (by omega), if_pos (by omega)]
 have := hC.piece (i := v.toNat) (by simp only [List.length_append, List.length_singleton]; omega) hm (.inr (e1.trans e2.symm))
 rw [e1, e2] at this
 exact ⟨y, this⟩
theorem piece_way {m : Int} (hC : Chn es left B W) (hW : W.Nodup) (ha : W.getD 0 0 = a) (ht : W.getD B.length 0 = t) (hB : 0 < B.length) (hm : AmOk left B m) : PieceOk es left (m, B) a t := by
 have := hC.piece (i := 0) hB (by simpa using hm) (.inl fun j hj => nodup_at hW hj (by rw [hC.wl]; omega))
 rw [ha, ht] at this
 simpa using this
theorem way_end : ∀ {B : List Int} {x y : Int}, B ≠ [] → isWay es B x y = true → ∃ k ∈ B, 0 ≤ k ∧ k < es.length ∧ (es.getD k.toNat default).dst = y
 | [], _, _, h, _ => absurd rfl h
 | [k], x, y, _, h => by
  simp only [isWay, Bool.and_eq_true, decide_eq_true_eq] at h
  exact ⟨k, List.mem_cons_self, h.1.1, h.1.2.1, h.2⟩
 | k :: q :: r, x, y, _, h => by
  rw [isWay, Bool.and_eq_true] at h
  obtain ⟨j, h1, h2⟩ := way_end (B := q :: r) (by simp) h.2
  exact ⟨j, List.mem_cons_of_mem _ h1, h2⟩
def InB (left : List Int) : Prop := ∀ j, 0 ≤ left.getD j 0 ∧ left.getD j 0 ≤ 10000
theorem InB.take (h : InB left) (hp : PieceOk es left p s t) (hl : left.length = es.length) (ha0 : 0 ≤ a) (ha : a ≤ p.1) : InB (takeOff a left p.2) := fun j => by
 obtain ⟨h1, h2, h3⟩ := taken_facts hp hl (fun j _ => (h j).1) ha0 ha
 by_cases hj : j < es.length
 ·have := h3 j hj
  have := h j
  omega
 ·rw [getD_ge _ _ _ (by omega)]; omega
theorem PieceOk.lt (h : PieceOk es left p s t) (hl : left.length = es.length) : ∀ k ∈ p.2, 0 ≤ k ∧ k < left.length ∧ p.1 ≤ left.getD k.toNat 0 := fun k hk => by
 have := h.kr k hk
 exact ⟨this.1, by omega, h.le k hk⟩
theorem PieceOk.many (h : PieceOk es left p s t) : p.2.length ≤ es.length := by
 have := nodup_int (n := (es.length : Int)) h.nd h.kr
 omega
theorem PieceOk.top (h : PieceOk es left p s t) (hb : InB left) : p.1 ≤ 10000 := by
 obtain ⟨k, _, e⟩ := h.zero
 have := hb k.toNat
 omega
theorem takeOff_step (hi : i < arcs.length) : takeOff a left (arcs.take (i + 1)) = (takeOff a left (arcs.take i)).set (arcs.getD i 0).toNat ((takeOff a left (arcs.take i)).getD (arcs.getD i 0).toNat 0 - a) := by
 rw [take_getD arcs 0 i hi, takeOff, takeOff, List.foldl_append]; rfl
theorem takeOff_now (hi : i < arcs.length) (hn : arcs.Nodup) (hr : ∀ k ∈ arcs, 0 ≤ k) : (takeOff a left (arcs.take i)).getD (arcs.getD i 0).toNat 0 = left.getD (arcs.getD i 0).toNat 0 := by
 refine takeOff_other a _ _ fun k hk e => ?_
 obtain ⟨j, hj, e2⟩ := mem_getD 0 hk
 rw [List.length_take] at hj
 rw [take_at (by omega)] at e2
 have h1 := hr k (List.mem_of_mem_take hk)
 have h2 := hr _ (getD_mem (d := 0) hi)
 exact nodup_at hn (show j < i by omega) hi (by omega)
def stepK (es : List Arc) (left : List Int) (c : Int) : Option Nat := (List.range es.length).find? fun k => decide (0 < left.getD k 0) && decide ((es.getD k default).src = c)
def minAm (left arcs : List Int) : Int := minOf (arcs.map fun k => left.getD k.toNat 0)
def pieceF (es : List Arc) (left : List Int) (t : Int) : Nat → List Int → List Int → Int → (Int × List Int) × Bool
 | 0, B, _, _ => ((0, B), false)
 | m + 1, B, W, c => if c = t then ((minAm left B, B), false) else match stepK es left c with
  | none => ((0, B), false)
  | some k => match findD (es.getD k default).dst (seenOf W) with
   | some v => ((minAm left ((B ++ [(k : Int)]).drop v.toNat), (B ++ [(k : Int)]).drop v.toNat), true)
   | none => pieceF es left t m (B ++ [(k : Int)]) (W ++ [(es.getD k default).dst]) (es.getD k default).dst
theorem minOf_ok : ∀ {l : List Int}, l ≠ [] → minOf l ∈ l ∧ ∀ x ∈ l, minOf l ≤ x
 | [], h => absurd rfl h
 | x :: r, _ => by
  have key : ∀ (r : List Int) (m : Int), (r.foldl min m = m ∨ r.foldl min m ∈ r) ∧ r.foldl min m ≤ m ∧ ∀ y ∈ r, r.foldl min m ≤ y := by
   intro r
   induction r with
   | nil => intro m; exact ⟨.inl rfl, Int.le_refl _, fun y hy => by cases hy⟩
   | cons z r ih =>
    intro m
    obtain ⟨h1, h2, h3⟩ := ih (min m z)
    refine ⟨?_, ?_, fun y hy => ?_⟩
    ·show (r.foldl min (min m z) = m) ∨ r.foldl min (min m z) ∈ z :: r
     rcases h1 with h1 | h1
     ·rcases Int.le_total m z with q | q
      ·left; rw [h1]; omega
      ·right; rw [h1, show min m z = z by omega]; exact List.mem_cons_self
     ·right; exact List.mem_cons_of_mem _ h1
    ·show r.foldl min (min m z) ≤ m
     omega
    ·show r.foldl min (min m z) ≤ y
     rcases List.mem_cons.1 hy with rfl | hy
     ·omega
     ·exact h3 y hy
  obtain ⟨h1, h2, h3⟩ := key r x
  refine ⟨?_, fun y hy => ?_⟩
  ·show r.foldl min x ∈ x :: r
   rcases h1 with h1 | h1
   ·rw [h1]; exact List.mem_cons_self
   ·exact List.mem_cons_of_mem _ h1
  ·show r.foldl min x ≤ y
   rcases List.mem_cons.1 hy with rfl | hy
   ·exact h2
   ·exact h3 y hy
theorem minAm_ok (h : arcs ≠ []) : AmOk left arcs (minAm left arcs) := by
 obtain ⟨h1, h2⟩ := minOf_ok (l := arcs.map fun k => left.getD k.toNat 0) (by simpa using h)
 obtain ⟨k, hk, e⟩ := List.mem_map.1 h1
 exact ⟨⟨k, hk, e⟩, fun k hk => h2 _ (List.mem_map.2 ⟨k, hk, rfl⟩)⟩
theorem AmOk.uniq {b : Int} (h : AmOk left arcs a) (k : AmOk left arcs b) : a = b := by
 obtain ⟨⟨x, hx, e1⟩, h2⟩ := h
 obtain ⟨⟨y, hy, e2⟩, k2⟩ := k
 have := h2 y hy
 have := k2 x hx
 omega
theorem AmOk.is (h : AmOk left arcs a) : a = minAm left arcs := by
 obtain ⟨⟨x, hx, _⟩, _⟩ := id h
 exact h.uniq (minAm_ok (fun e => by rw [e] at hx; cases hx))
theorem stepK_some {k : Nat} (h : stepK es left c = some k) : k < es.length ∧ 0 < left.getD k 0 ∧ (es.getD k default).src = c := by
 unfold stepK at h
 have h1 := List.find?_some h
 have h2 := List.mem_range.1 (List.mem_of_find?_eq_some h)
 simp only [Bool.and_eq_true, decide_eq_true_eq] at h1
 exact ⟨h2, h1⟩
theorem stepK_is {k : Nat} (hk : k < es.length) (h1 : 0 < left.getD k 0) (h2 : (es.getD k default).src = c) (hmin : ∀ j, j < k → ¬ (0 < left.getD j 0 ∧ (es.getD j default).src = c)) : stepK es left c = some k := by
 unfold stepK
 rcases find_range (fun k => decide (0 < left.getD k 0) && decide ((es.getD k default).src = c)) es.length with ⟨j, e, q1, q2, q3⟩ | ⟨_, q⟩
 ·rw [e]
  simp only [Bool.and_eq_true, decide_eq_true_eq] at q2
  congr 1
  rcases Nat.lt_trichotomy j k with h | h | h
  ·exact absurd q2 (hmin j h)
  ·exact h
  ·have := q3 k h
   simp only [Bool.and_eq_false_iff, decide_eq_false_iff_not] at this
   rcases this with t | t
   ·exact absurd h1 t
   ·exact absurd h2 t
 ·have := q k hk
  simp only [Bool.and_eq_false_iff, decide_eq_false_iff_not] at this
  rcases this with t | t
  ·exact absurd h1 t
  ·exact absurd h2 t
theorem Chn.out (hC : Chn es left B W) (hct : W.getD B.length 0 = c) (hw0 : W.getD 0 0 = a) (hc : c ≠ t) (hg : Goes es left t a) : ∃ K, K < es.length ∧ 0 < left.getD K 0 ∧ (es.getD K default).src = c := by
 refine hg c hc ?_
 by_cases hB : B.length = 0
 ·left; rw [← hct, hB]; exact hw0
 ·right
  obtain ⟨q1, q2, q3, q4, q5⟩ := hC.st (B.length - 1) (by omega)
  exact ⟨(B.getD (B.length - 1) 0).toNat, by omega, q5, by rw [q4, show B.length - 1 + 1 = B.length by omega]; exact hct⟩
theorem pieceF_go (hG : GOk n es 0) (hat : a ≠ t) (hg : Goes es left t a) : ∀ (m : Nat) (B W : List Int) (c : Int), Chn es left B W → W.Nodup → W.getD B.length 0 = c → W.getD 0 0 = a → (∀ v ∈ W, 0 ≤ v ∧ v < n) → n.toNat + 1 ≤ m + B.length →
  ((pieceF es left t m B W c).2 = true ∧ ∃ x, PieceOk es left (pieceF es left t m B W c).1 x x) ∨ ((pieceF es left t m B W c).2 = false ∧ PieceOk es left (pieceF es left t m B W c).1 a t)
 | 0, B, W, c, hC, hW, _, _, hr, hm => by
  have := nodup_int hW hr
  have := hC.wl
  omega
 | m + 1, B, W, c, hC, hW, hct, hw0, hr, hm => by
  unfold pieceF
  by_cases hc : c = t
  ·rw [if_pos hc]
   have hBp : 0 < B.length := by
    rcases Nat.eq_zero_or_pos B.length with q | q
    ·rw [q] at hct; omega
    ·exact q
   exact .inr ⟨rfl, piece_way hC hW hw0 (hct.trans hc) hBp (minAm_ok (List.length_pos_iff.1 hBp))⟩
  ·rw [if_neg hc]
   obtain ⟨K, hK1, hK2, hK3⟩ := hC.out hct hw0 hc hg
   cases hs : stepK es left c with
   | none =>
    exfalso
    unfold stepK at hs
    have := List.find?_eq_none.1 hs K (List.mem_range.2 hK1)
    simp only [Bool.and_eq_true, decide_eq_true_eq] at this
    exact this ⟨hK2, hK3⟩
   | some k =>
    obtain ⟨k1, k2, k3⟩ := stepK_some hs
    simp only
    obtain ⟨a1, a2, a3, a4, a5, a6⟩ := hG.at_ k1
    have hC1 := hC.snoc (k := (k : Int)) hW (by omega) (by omega) (by rw [Int.toNat_natCast, k3]; exact hct.symm) (by rw [Int.toNat_natCast]; exact k2)
    rw [Int.toNat_natCast] at hC1
    cases hf : findD (es.getD k default).dst (seenOf W) with
    | some v =>
     have hs := seen_some hf
     have hwl := hC.wl
     exact .inl ⟨rfl, piece_round hC1 hf (minAm_ok (fun e => by
      have := congrArg List.length e
      simp only [List.length_drop, List.length_append, List.length_singleton, List.length_nil] at this
      omega))⟩
    | none =>
     have hyW := seen_none hf
     have hwl := hC.wl
     exact pieceF_go hG hat hg m _ _ _ hC1 (List.nodup_append.2 ⟨hW, by simp, fun x hx y hy e => hyW (by rw [← List.mem_singleton.1 hy, ← e]; exact hx)⟩)
      (by rw [snoc_at, List.length_append, List.length_singleton, if_neg (by omega), if_pos (by omega)]) (by rw [snoc_at, if_pos (by omega)]; exact hw0)
      (fun q hq => by
       rcases List.mem_append.1 hq with hq | hq
       ·exact hr q hq
       ·rw [List.mem_singleton.1 hq]; exact ⟨a3, a4⟩) (by rw [List.length_append, List.length_singleton]; omega)
theorem pieceF_ok (hG : GOk n es 0) (h0 : 0 ≤ a) (h1 : a < n) (hat : a ≠ t) (hg : Goes es left t a) :
  ((pieceF es left t (n.toNat + 1) [] [a] a).2 = true ∧ ∃ x, PieceOk es left (pieceF es left t (n.toNat + 1) [] [a] a).1 x x) ∨ ((pieceF es left t (n.toNat + 1) [] [a] a).2 = false ∧ PieceOk es left (pieceF es left t (n.toNat + 1) [] [a] a).1 a t) :=
 pieceF_go hG hat hg _ _ _ _ (Chn.start a) (by simp) rfl rfl (fun v hv => by rw [List.mem_singleton.1 hv]; exact ⟨h0, h1⟩) (by simp)
theorem idxOf_before {α : Type} {p : α → Bool} {d : α} {l : List α} (h : (j : Int) < idxOf p l) : p (l.getD j d) = false := by
 cases hh : p (l.getD j d)
 ·rfl
 ·have h1 := (idxOf_ge (p := p) (l := l)).2
  have := idxOf_le (d := d) (show j < l.length by omega) hh
  omega
theorem pieceF_end (hm : 1 ≤ m) (hc : c = t) : pieceF es left t m B W c = ((minAm left B, B), false) := by
 obtain ⟨q, rfl⟩ : ∃ q, m = q + 1 := ⟨m - 1, by omega⟩
 unfold pieceF
 rw [if_pos hc]
theorem pieceF_round (hm : 1 ≤ m) (hc : c ≠ t) (hk : 0 ≤ k) (hs : stepK es left c = some k.toNat) (hf : findD (es.getD k.toNat default).dst (seenOf W) = some v) : pieceF es left t m B W c = ((minAm left ((B ++ [k]).drop v.toNat), (B ++ [k]).drop v.toNat), true) := by
 obtain ⟨q, rfl⟩ : ∃ q, m = q + 1 := ⟨m - 1, by omega⟩
 unfold pieceF
 rw [if_neg hc, hs]
 simp only [hf, Int.toNat_of_nonneg hk]
theorem pieceF_next {m' : Nat} (hm : m = m' + 1) (hc : c ≠ t) (hk : 0 ≤ k) (hs : stepK es left c = some k.toNat) (hf : findD (es.getD k.toNat default).dst (seenOf W) = none) : pieceF es left t m B W c = pieceF es left t m' (B ++ [k]) (W ++ [(es.getD k.toNat default).dst]) (es.getD k.toNat default).dst := by
 subst hm
 rw [pieceF, if_neg hc, hs]
 simp only [hf, Int.toNat_of_nonneg hk]
end Go.Ab
set_option maxRecDepth 100000
namespace Go.Ab
open Go Go.Proofs
abbrev Zr0 (a0 : List (Int × List Int)) (a1 : List (Int × List Int)) := ((1, .box 2 1 [(.rs (.pieces a0)), (.rs (.pieces a1))]) : Nat × Obj)
abbrev Zr1 (a0) (a1 : List (Int × List Int)) := ((3, .i (((a0 + a1.length) : Nat) : Int)) : Nat × AV)
abbrev Zr2 (a0) := ([(122, .recs (.pieces (List.replicate a0 ((0, []) : Int × List Int))))] : List (Nat × Obj))
abbrev Zr3 (a0) := ((3, .i (a0 : Int)) : Nat × AV)
abbrev Zr4 (a0 : List (Int × List Int)) := ((6, .w 124 a0.length) : Nat × AV)
abbrev Zr5 := ([(9001, .recs (.pieces []))] : List (Nat × Obj))
abbrev Zr6 (a0 : List (Int × List Int)) (a1 : List (Int × List Int)) := ([(6, .w 124 (a0.length + a1.length)), (25, .w 1 2), (26, .i 2), (27, .i 1)] : List (Nat × AV))
theorem grow_pieces (m : Nat) (hm : m * 32 ≤ 140737488355328) : ACall Tryd.prog 49 [.one .nils, .i (m : Int)] [] (fun ov oh => ov = .w 9001 0 ∧ oh = Zr5) := by
 refine acall_intro hT Tryd.func49 rfl (by kernel_rfl) rfl (by kernel_rfl) ?_
 refine kq [] ⟨27, [(0, .one .nils), (1, .i (m : Int))], []⟩ hT (by kernel_rfl) trivial ?_
 refine awp_seq ?_
 refine kq [] ⟨27, [(0, .one .nils), (1, .i (m : Int)), (6, .one (.bool (decide ((m : Int) < 0))))], []⟩ hT (by kernel_rfl) trivial ?_
 refine awp_cond (b := (decide ((m : Int) < 0))) (by kernel_rfl) (fun c1 => ?_) (fun c1 => ?_)
 ·
  try simp only [bs] at c1
  exfalso; omega
 ·
  try simp only [bs] at c1
  refine awp_skip ?_
  refine awp_seq ?_
  refine kq [(-9223372036854775808 ≤ (0 : Int) ∧ (0 : Int) ≤ 9223372036854775807), (-9223372036854775808 ≤ ((m : Int) - 0) ∧ ((m : Int) - 0) ≤ 9223372036854775807)] ⟨27, [(0, .one .nils), (1, .i ((m : Int) - 0))], []⟩ hT (by kernel_rfl) ⟨(by omega), (by omega), trivial⟩ ?_
  refine kq [] ⟨27, [(0, .one .nils), (1, .i ((m : Int) - 0)), (16, .one (.bool (decide ((0 : Int) < ((m : Int) - 0)))))], []⟩ hT (by kernel_rfl) trivial ?_
  refine awp_cond (b := (decide ((0 : Int) < ((m : Int) - 0)))) (by kernel_rfl) (fun c4 => ?_) (fun c4 => ?_)
  ·
   try simp only [bs] at c4
   rw [show ((m : Int) - 0) = (m : Int) from by omega]
   refine awp_region ?_
   refine ko 5 [((0 : Int) ≤ 0), ((0 : Int) ≤ 0), ((0 : Int) ≤ 0)] ⟨27, [(0, .one .nils), (20, .one .nils), (21, .i (m : Int))], []⟩ hT (by kernel_rfl) (by kernel_rfl) ⟨(by omega), (by omega), (by omega), trivial⟩ ?_
   refine aops_growz (m := m) (ob := .recs (.pieces (List.replicate m ((0, []) : Int × List Int)))) hT rfl rfl rfl rfl (by kernel_rfl) (show T 73 = some _ from rfl) rfl (show T 78 = some _ from rfl) (show T 3 = some _ from rfl) rfl (by kernel_rfl) (by kernel_rfl) (by omega) (by omega) (by omega) (by kernel_rfl) (by kernel_rfl) (by kernel_rfl) (by kernel_rfl) ?_
   refine ku ⟨27, [(0, .one .nils), (20, .one .nils), (21, .i (m : Int)), (22, .w 122 m)], (Zr2 m)⟩ (by kernel_rfl) ?_
   refine ko 4 [((0 : Int) ≤ 0), ((0 : Int) ≤ 0), ((0 : Int) ≤ (m : Int))] ⟨27, [(0, .w 122 0)], (Zr2 m)⟩ hT (by kernel_rfl) (by kernel_rfl) ⟨(by omega), (by omega), (by omega), trivial⟩ ?_
   refine aops_end (by kernel_rfl) ?_
   refine kq [] ⟨27, [(4, .w 122 0)], (Zr2 m)⟩ hT (by kernel_rfl) trivial ?_
   refine awp_weak (awk_reset 122 4 (.recs (.pieces (List.replicate m ((0, []) : Int × List Int)))) (.recs (.pieces [])) _ (by kernel_rfl) (by kernel_rfl) (by decide) rfl rfl) ?_
   refine awp_weak (awk_ren 122 9001 (s' := ⟨27, [(4, .w 9001 0)], Zr5⟩) (by kernel_rfl)) ?_
   refine awp_ret ?_
   refine kRet.ret _ [9001] [] (.w 9001 0) Zr5 (by kernel_rfl) trivial ?_
   exact ⟨(by kernel_rfl), (by kernel_rfl)⟩
  ·
   try simp only [bs] at c4
   refine awp_skip ?_
   refine kq [] ⟨27, [(4, .one .nils)], []⟩ hT (by kernel_rfl) trivial ?_
   refine awp_weak (awk_empty 5004 (.recs (.pieces [])) rfl (by decide) _) ?_
   refine awp_weak (awk_slot 4 (.one .nils) (.w 5004 0) _ (by kernel_rfl) (.one (wkv_nils (o := .recs (.pieces [])) (by kernel_rfl)))) ?_
   refine awp_weak (awk_ren 5004 9001 (s' := ⟨27, [(4, .w 9001 0)], Zr5⟩) (by kernel_rfl)) ?_
   refine awp_ret ?_
   refine kRet.ret _ [9001] [] (.w 9001 0) Zr5 (by kernel_rfl) trivial ?_
   exact ⟨(by kernel_rfl), (by kernel_rfl)⟩
theorem concat_pieces (a b : List (Int × List Int)) (hl : (a.length + b.length) * 32 ≤ 140737488355328) : ACall Tryd.prog 32 [.w 1 2] [(Zr0 a b)] (fun ov oh => ov = .w 9001 ((a ++ b).length) ∧ oh = [(Zr0 a b), (9001, .recs (.pieces (a ++ b)))]) := by
 refine acall_intro hT Tryd.func32 rfl (by kernel_rfl) rfl (by kernel_rfl) ?_
 have hab : (a ++ b).length = a.length + b.length := List.length_append
 refine kq [] ⟨36, [(0, .w 1 2)], [(Zr0 a b)]⟩ hT (by kernel_rfl) trivial ?_
 refine kq [] ⟨36, [(0, .w 1 2), (3, .i 0)], [(Zr0 a b)]⟩ hT (by kernel_rfl) trivial ?_
 refine awp_seq ?_
 refine kq [] ⟨36, [(0, .w 1 2), (3, .i 0), (9, .w 1 2), (10, .i 2), (11, .i 0)], [(Zr0 a b)]⟩ hT (by kernel_rfl) trivial ?_
 refine awp_block ?_
 refine awp_loop (I := fun κ σ => ∃ (i t : Nat), ((i = 0 ∨ i = 1 ∨ i = 2) ∧ ((i = 0 → t = 0) ∧ (i = 1 → t = a.length) ∧ (i = 2 → t = a.length + b.length)) ∧ 2 - i = κ) ∧ σ = ⟨36, [(0, .w 1 2), (Zr3 t), (9, .w 1 2), (10, .i 2), (11, .i (i : Int))], [(Zr0 a b)]⟩) _ ⟨0, 0, ⟨(by omega), (by omega), rfl⟩, (by kernel_rfl)⟩ ?_
 rintro κ _ ⟨i, t, ⟨hi, ht, rfl⟩, rfl⟩
 rcases hi with rfl | rfl | rfl
 ·
  refine kq [] ⟨36, [(0, .w 1 2), (Zr3 t), (9, .w 1 2), (10, .i 2), (11, .i 0), (12, .one (.bool true))], [(Zr0 a b)]⟩ hT (by kernel_rfl) trivial ?_
  refine awp_seq ?_
  refine awp_cond (b := true) (by kernel_rfl) (fun _ => ?_) (fun h => by cases h)
  refine awp_skip ?_
  refine awp_seq ?_
  refine awp_block ?_
  refine kq [((0 : Int) ≤ (0 : Int)), ((0 : Int) < 2), (0 < 2)] ⟨36, [(0, .w 1 2), (Zr3 t), (5, .one (.rs (.pieces a))), (9, .w 1 2), (10, .i 2), (11, .i 0)], [(Zr0 a b)]⟩ hT (by kernel_rfl) ⟨(by omega), (by omega), (by decide), trivial⟩ ?_
  refine kq [(-9223372036854775808 ≤ (((t + a.length) : Nat) : Int) ∧ (((t + a.length) : Nat) : Int) ≤ 9223372036854775807)] ⟨36, [(0, .w 1 2), (Zr1 t a), (9, .w 1 2), (10, .i 2), (11, .i 0)], [(Zr0 a b)]⟩ hT (by kernel_rfl) ⟨(by omega), trivial⟩ ?_
  refine kq [] ⟨36, [(0, .w 1 2), (Zr1 t a), (9, .w 1 2), (10, .i 2), (11, .i 0), (20, .one (.bool (decide ((((t + a.length) : Nat) : Int) < 0))))], [(Zr0 a b)]⟩ hT (by kernel_rfl) trivial ?_
  refine awp_cond (b := (decide ((((t + a.length) : Nat) : Int) < 0))) (by kernel_rfl) (fun c6 => ?_) (fun c6 => ?_)
  ·
   try simp only [bs] at c6
   exfalso; omega
  ·
   try simp only [bs] at c6
   refine awp_skip ?_
   refine kr [(-9223372036854775808 ≤ (1 : Int) ∧ (1 : Int) ≤ 9223372036854775807)] ⟨36, [(0, .w 1 2), (Zr1 t a), (9, .w 1 2), (10, .i 2), (11, .i 1)], [(Zr0 a b)]⟩ hT (by kernel_rfl) ⟨(by omega), trivial⟩ ?_
   refine loop_end _ ?_ ⟨1, (t + a.length), ⟨(by omega), (by omega), rfl⟩, (by kernel_rfl)⟩
   omega
 ·
  refine kq [] ⟨36, [(0, .w 1 2), (Zr3 t), (9, .w 1 2), (10, .i 2), (11, .i 1), (12, .one (.bool true))], [(Zr0 a b)]⟩ hT (by kernel_rfl) trivial ?_
  refine awp_seq ?_
  refine awp_cond (b := true) (by kernel_rfl) (fun _ => ?_) (fun h => by cases h)
  refine awp_skip ?_
  refine awp_seq ?_
  refine awp_block ?_
  refine kq [((0 : Int) ≤ (1 : Int)), ((1 : Int) < 2), (1 < 2)] ⟨36, [(0, .w 1 2), (Zr3 t), (5, .one (.rs (.pieces b))), (9, .w 1 2), (10, .i 2), (11, .i 1)], [(Zr0 a b)]⟩ hT (by kernel_rfl) ⟨(by omega), (by omega), (by decide), trivial⟩ ?_
  refine kq [(-9223372036854775808 ≤ (((t + b.length) : Nat) : Int) ∧ (((t + b.length) : Nat) : Int) ≤ 9223372036854775807)] ⟨36, [(0, .w 1 2), (Zr1 t b), (9, .w 1 2), (10, .i 2), (11, .i 1)], [(Zr0 a b)]⟩ hT (by kernel_rfl) ⟨(by omega), trivial⟩ ?_
  refine kq [] ⟨36, [(0, .w 1 2), (Zr1 t b), (9, .w 1 2), (10, .i 2), (11, .i 1), (20, .one (.bool (decide ((((t + b.length) : Nat) : Int) < 0))))], [(Zr0 a b)]⟩ hT (by kernel_rfl) trivial ?_
  refine awp_cond (b := (decide ((((t + b.length) : Nat) : Int) < 0))) (by kernel_rfl) (fun c6 => ?_) (fun c6 => ?_)
  ·
   try simp only [bs] at c6
   exfalso; omega
  ·
   try simp only [bs] at c6
   refine awp_skip ?_
   refine kr [(-9223372036854775808 ≤ (2 : Int) ∧ (2 : Int) ≤ 9223372036854775807)] ⟨36, [(0, .w 1 2), (Zr1 t b), (9, .w 1 2), (10, .i 2), (11, .i 2)], [(Zr0 a b)]⟩ hT (by kernel_rfl) ⟨(by omega), trivial⟩ ?_
   refine loop_end _ ?_ ⟨2, (t + b.length), ⟨(by omega), (by omega), rfl⟩, (by kernel_rfl)⟩
   omega
 ·
  refine kq [] ⟨36, [(0, .w 1 2), (Zr3 t), (9, .w 1 2), (10, .i 2), (11, .i 2), (12, .one (.bool false))], [(Zr0 a b)]⟩ hT (by kernel_rfl) trivial ?_
  refine awp_seq ?_
  refine awp_cond (b := false) (by kernel_rfl) (fun h => by cases h) (fun _ => ?_)
  refine awp_exit ?_
  refine awp_seq (awp_region ?_)
  refine ko 1 [] ⟨36, [(0, .w 1 2), (23, .i (t : Int))], [(Zr0 a b)]⟩ hT (by kernel_rfl) (by kernel_rfl) trivial ?_
  refine aops_call [] [(9001, 124)] false ⟨true, [], 49, [.one .nils, .i (t : Int)], []⟩ [.one .nils, .i (t : Int)] (sm := ⟨36, [(0, .w 1 2), (23, .i (t : Int)), (24, .whn false (.one .any))], [(Zr0 a b)]⟩) (by kernel_rfl) (by kernel_rfl) (by decide) (fun _ => trivial) rfl (fun _ => grow_pieces t (by first | omega | (simp; omega))) (fun _ v Hr hv => ?_) (fun h => by cases h)
  obtain ⟨rfl, rfl⟩ := hv
  refine ⟨⟨36, [(0, .w 1 2), (23, .i (t : Int)), (24, .w 124 0)], [(Zr0 a b), (124, .recs (.pieces []))]⟩, by kernel_rfl, ?_⟩
  refine ko 1 [] ⟨36, [(0, .w 1 2), (6, .w 124 0)], [(Zr0 a b), (124, .recs (.pieces []))]⟩ hT (by kernel_rfl) (by kernel_rfl) trivial ?_
  refine aops_end_seq (by kernel_rfl) ?_
  refine awp_seq ?_
  refine kq [] ⟨36, [(6, .w 124 0), (25, .w 1 2), (26, .i 2), (27, .i 0)], [(Zr0 a b), (124, .recs (.pieces []))]⟩ hT (by kernel_rfl) trivial ?_
  refine awp_block ?_
  refine awp_loop (I := fun κ σ => ∃ (j : Nat) (r : List (Int × List Int)), ((j = 0 ∨ j = 1 ∨ j = 2) ∧ ((j = 0 → r = []) ∧ (j = 1 → r = a) ∧ (j = 2 → r = a ++ b)) ∧ 2 - j = κ) ∧ σ = ⟨36, [(Zr4 r), (25, .w 1 2), (26, .i 2), (27, .i (j : Int))], [(Zr0 a b), (124, .recs (.pieces r))]⟩) _ ⟨0, [], ⟨(by omega), (by simp), rfl⟩, (by kernel_rfl)⟩ ?_
  rintro κ _ ⟨j, r, ⟨hj, hr, rfl⟩, rfl⟩
  rcases hj with rfl | rfl | rfl
  ·
   simp at hr
   have hrl := congrArg List.length hr
   try simp only [List.length_nil, List.length_append] at hrl
   refine kq [] ⟨36, [(Zr4 r), (25, .w 1 2), (26, .i 2), (27, .i 0), (28, .one (.bool true))], [(Zr0 a b), (124, .recs (.pieces r))]⟩ hT (by kernel_rfl) trivial ?_
   refine awp_seq ?_
   refine awp_cond (b := true) (by kernel_rfl) (fun _ => ?_) (fun h => by cases h)
   refine awp_skip ?_
   refine awp_seq ?_
   refine awp_block ?_
   refine kq [((0 : Int) ≤ (0 : Int)), ((0 : Int) < 2), (0 < 2)] ⟨36, [(Zr4 r), (8, .one (.rs (.pieces a))), (25, .w 1 2), (26, .i 2), (27, .i 0)], [(Zr0 a b), (124, .recs (.pieces r))]⟩ hT (by kernel_rfl) ⟨(by omega), (by omega), (by decide), trivial⟩ ?_
   refine kr [(r.length = r.length), ((r.length + a.length) * 32 ≤ 140737488355328), ((r.length + a.length) ≤ 9223372036854775807)] ⟨36, [(6, .w 124 (r.length + a.length)), (25, .w 1 2), (26, .i 2), (27, .i 0)], [(Zr0 a b), (124, .recs (.pieces (r ++ a)))]⟩ hT (by kernel_rfl) ⟨(by omega), (by omega), (by omega), trivial⟩ ?_
   refine kr [(-9223372036854775808 ≤ (1 : Int) ∧ (1 : Int) ≤ 9223372036854775807)] ⟨36, (Zr6 r a), [(Zr0 a b), (124, .recs (.pieces (r ++ a)))]⟩ hT (by kernel_rfl) ⟨(by omega), trivial⟩ ?_
   refine loop_end _ ?_ ⟨1, (r ++ a), ⟨(by omega), (by simp [hr]), rfl⟩, (by simp only [Zr0, Zr1, Zr2, Zr3, Zr4, Zr5, Zr6, lens]; rfl)⟩
   omega
  ·
   simp at hr
   have hrl := congrArg List.length hr
   try simp only [List.length_nil, List.length_append] at hrl
   refine kq [] ⟨36, [(Zr4 r), (25, .w 1 2), (26, .i 2), (27, .i 1), (28, .one (.bool true))], [(Zr0 a b), (124, .recs (.pieces r))]⟩ hT (by kernel_rfl) trivial ?_
   refine awp_seq ?_
   refine awp_cond (b := true) (by kernel_rfl) (fun _ => ?_) (fun h => by cases h)
   refine awp_skip ?_
   refine awp_seq ?_
   refine awp_block ?_
   refine kq [((0 : Int) ≤ (1 : Int)), ((1 : Int) < 2), (1 < 2)] ⟨36, [(Zr4 r), (8, .one (.rs (.pieces b))), (25, .w 1 2), (26, .i 2), (27, .i 1)], [(Zr0 a b), (124, .recs (.pieces r))]⟩ hT (by kernel_rfl) ⟨(by omega), (by omega), (by decide), trivial⟩ ?_
   refine kr [(r.length = r.length), ((r.length + b.length) * 32 ≤ 140737488355328), ((r.length + b.length) ≤ 9223372036854775807)] ⟨36, (Zr6 r b), [(Zr0 a b), (124, .recs (.pieces (r ++ b)))]⟩ hT (by kernel_rfl) ⟨(by omega), (by omega), (by omega), trivial⟩ ?_
   refine kr [(-9223372036854775808 ≤ (2 : Int) ∧ (2 : Int) ≤ 9223372036854775807)] ⟨36, [(6, .w 124 (r.length + b.length)), (25, .w 1 2), (26, .i 2), (27, .i 2)], [(Zr0 a b), (124, .recs (.pieces (r ++ b)))]⟩ hT (by kernel_rfl) ⟨(by omega), trivial⟩ ?_
   refine loop_end _ ?_ ⟨2, (r ++ b), ⟨(by omega), (by simp [hr]), rfl⟩, (by simp only [Zr0, Zr1, Zr2, Zr3, Zr4, Zr5, Zr6, lens]; rfl)⟩
   omega
  ·
   simp at hr
   have hrl := congrArg List.length hr
   try simp only [List.length_nil, List.length_append] at hrl
   refine kq [] ⟨36, [(Zr4 r), (25, .w 1 2), (26, .i 2), (27, .i 2), (28, .one (.bool false))], [(Zr0 a b), (124, .recs (.pieces r))]⟩ hT (by kernel_rfl) trivial ?_
   refine awp_seq ?_
   refine awp_cond (b := false) (by kernel_rfl) (fun h => by cases h) (fun _ => ?_)
   refine awp_exit ?_
   refine kq [] ⟨36, [(2, .w 124 r.length)], [(Zr0 a b), (124, .recs (.pieces r))]⟩ hT (by kernel_rfl) trivial ?_
   refine awp_weak (awk_ren 124 9001 (s' := ⟨36, [(2, .w 9001 r.length)], [(Zr0 a b), (9001, .recs (.pieces r))]⟩) (by kernel_rfl)) ?_
   refine awp_ret ?_
   refine kRet.ret _ [9001] [] (.w 9001 r.length) [(Zr0 a b), (9001, .recs (.pieces r))] (by kernel_rfl) trivial ?_
   exact ⟨(by rw [hr]), (by rw [hr])⟩
end Go.Ab
set_option maxRecDepth 100000
namespace Go.Ab
open Go Go.Proofs
abbrev ZEG (g : Bool) : Prop := g = true → g = true
abbrev ZEL (g : Bool) : Prop := g = true → (0 < 1)
abbrev ZET (g : Bool) : Prop := g = true → (g = true → g = true)
abbrev ZEb0 (a0 : List Arc) (a1) (a2 : Int) := ((!(((decide (((List.getD a0 a1 default).src) < 0)) || (decide (a2 ≤ ((List.getD a0 a1 default).src)))) || (decide (((List.getD a0 a1 default).dst) < 0)))) : Bool)
abbrev ZEb1 (a0 : List Arc) (a1) := ((!(decide ((min ((List.getD a0 a1 default).src) ((List.getD a0 a1 default).dst)) < 0))) : Bool)
abbrev ZEb2 (a0 : Int) (a1 : List Arc) (a2 : Int) (a3 : Int) := (((decide ((graphErr a0 a1 (0)) = 0)) && (!(decide ((min a2 a3) < 0)))) : Bool)
abbrev ZEb3 (a0 : Int) (a1 : Int) (a2 : Int) := ((!(((decide (a0 < 0)) || (decide (a1 ≤ a0))) || (decide (a2 < 0)))) : Bool)
abbrev ZEb4 (a0 : List Arc) (a1) (a2 : Int) := ((!((decide (((List.getD a0 a1 default).src) < 0)) || (decide (a2 ≤ ((List.getD a0 a1 default).src))))) : Bool)
abbrev ZEb5 (a0 : List Arc) (a1) (a2 : Int) := ((!(decide (((List.getD a0 a1 default).cap) < a2))) : Bool)
abbrev ZEb6 (a0 : Int) (a1 : List Arc) := ((decide ((graphErr a0 a1 (0)) = 0)) : Bool)
abbrev ZEb7 (a0 : List Arc) (a1) := ((!(decide (((List.getD a0 a1 default).src) < 0))) : Bool)
abbrev ZE0 (a0 : Int) (a1 : Int) (a2 : Int) (a3 : List Arc) := ([(101, .box 1 4 [(.i a0), (.i a1), (.i a2), (.ro (.arcs a3))])] : List (Nat × Obj))
abbrev ZE1 (a0 : Int) (a1 : List Arc) := ([(.i a0), (.ro (.arcs a1))] : List V1)
abbrev ZE2 (a0 : Int) (a1 : List Arc) (a2) := ([(102, .box 1 2 (ZE1 a0 a1)), (106, .box 1 3 [(.i ((List.getD a1 a2 default).src)), (.i ((List.getD a1 a2 default).dst)), (.i ((List.getD a1 a2 default).cap))])] : List (Nat × Obj))
abbrev ZE3 (a0 : List Arc) := ((.i ((a0.length : Nat) : Int)) : V1)
abbrev ZE4 (a0 : Int) (a1 : List Arc) := ([(102, .box 1 2 (ZE1 a0 a1))] : List (Nat × Obj))
abbrev ZE5 (a0 : Int) (a1 : List Arc) := ((.i (graphErr a0 a1 (0))) : V1)
abbrev ZE6 (a0 : Int) (a1 : List Arc) := ((.i (graphErr a0 a1 0)) : V1)
abbrev ZE7 (a0) := ((22, .i (a0 : Int)) : Nat × AV)
abbrev ZE8 (a0) := ((24, .i (a0 : Int)) : Nat × AV)
theorem graph_check (n least : Int) (es : List Arc) : ACall Tryd.prog 44 [.agg (ZE1 n es), .i least] [] (fun ov oh => ov = .i (graphErr n es least) ∧ oh = []) := by
 refine acall_intro hT Tryd.func44 rfl (by kernel_rfl) rfl (by kernel_rfl) ?_
 refine kq [] ⟨58, [(1, .i least), (2, .p 102)], (ZE4 n es)⟩ hT (by kernel_rfl) trivial ?_
 refine awp_seq ?_
 refine kq [(0 < 1), (ZET (!(decide (n < 1)))), (ZEL (!(decide (n < 1)))), (ZET (!(decide (n < 1)))), (ZEG (!(decide (n < 1))))] ⟨58, [(1, .i least), (2, .p 102), (14, .one (.bool ((decide (n < 1)) || (decide ((12 : Int) < n)))))], (ZE4 n es)⟩ hT (by kernel_rfl) ⟨(by decide), (fun _ h => h), (fun _ => by decide), (fun _ h => h), id, trivial⟩ ?_
 refine awp_cond (b := ((decide (n < 1)) || (decide ((12 : Int) < n)))) (by kernel_rfl) (fun c1 => ?_) (fun c1 => ?_)
 ·
  try simp only [bs] at c1
  refine kq [] ⟨58, [(4, .i 1)], []⟩ hT (by kernel_rfl) trivial ?_
  refine awp_ret ?_
  refine kRet.ret _ [] [] (.i 1) [] (by kernel_rfl) trivial ?_
  exact ⟨congrArg (fun x1 => (.i x1 : AV)) (show 1 = (graphErr n es least) from by rw [graphErr, if_pos (by omega)]), rfl⟩
 ·
  try simp only [bs] at c1
  refine awp_skip ?_
  refine awp_seq ?_
  refine kq [(0 < 1)] ⟨58, [(1, .i least), (2, .p 102), (18, .one (.bool (decide ((60 : Int) < ((es.length : Nat) : Int)))))], (ZE4 n es)⟩ hT (by kernel_rfl) ⟨(by decide), trivial⟩ ?_
  refine awp_cond (b := (decide ((60 : Int) < ((es.length : Nat) : Int)))) (by kernel_rfl) (fun c3 => ?_) (fun c3 => ?_)
  ·
   try simp only [bs] at c3
   refine kq [] ⟨58, [(4, .i 2)], []⟩ hT (by kernel_rfl) trivial ?_
   refine awp_ret ?_
   refine kRet.ret _ [] [] (.i 2) [] (by kernel_rfl) trivial ?_
   exact ⟨congrArg (fun x1 => (.i x1 : AV)) (show 2 = (graphErr n es least) from by rw [graphErr, if_neg (by omega), if_pos (by omega)]), rfl⟩
  ·
   try simp only [bs] at c3
   refine awp_skip ?_
   refine awp_seq ?_
   refine kq [(0 < 1)] ⟨58, [(1, .i least), (2, .p 102), (20, .one (.ro (.arcs es))), (21, .one (ZE3 es)), (22, .i 0)], (ZE4 n es)⟩ hT (by kernel_rfl) ⟨(by decide), trivial⟩ ?_
   refine awp_block ?_
   refine awp_loop (I := fun κ σ => ∃ (i : Nat), ((i ≤ es.length) ∧ (arcsErr n least (es.drop i) = arcsErr n least es) ∧ es.length - i = κ) ∧ σ = ⟨58, [(1, .i least), (2, .p 102), (20, .one (.ro (.arcs es))), (21, .one (ZE3 es)), (ZE7 i)], (ZE4 n es)⟩) _ ⟨0, ⟨(by omega), (by rfl), rfl⟩, (by kernel_rfl)⟩ ?_
   rintro κ _ ⟨i, ⟨hi, he, rfl⟩, rfl⟩
   refine kq [] ⟨58, [(1, .i least), (2, .p 102), (20, .one (.ro (.arcs es))), (21, .one (ZE3 es)), (ZE7 i), (23, .one (.bool (decide ((i : Int) < ((es.length : Nat) : Int)))))], (ZE4 n es)⟩ hT (by kernel_rfl) trivial ?_
   refine awp_seq ?_
   refine awp_cond (b := (decide ((i : Int) < ((es.length : Nat) : Int)))) (by kernel_rfl) (fun c6 => ?_) (fun c6 => ?_)
   ·
    try simp only [bs] at c6
    refine awp_skip ?_
    refine awp_seq ?_
    refine awp_block ?_
    refine kq [((0 : Int) ≤ (i : Int)), ((i : Int) < ((es.length : Nat) : Int)), (0 < 1)] ⟨58, [(1, .i least), (2, .p 102), (6, .p 106), (20, .one (.ro (.arcs es))), (21, .one (ZE3 es)), (ZE7 i)], (ZE2 n es i)⟩ hT (by kernel_rfl) ⟨(by omega), (by omega), (by decide), trivial⟩ ?_
    refine awp_seq ?_
    refine kq [(0 < 1), (ZET (ZEb7 es i)), (ZEL (ZEb7 es i)), (ZET (ZEb7 es i)), (ZEL (ZEb7 es i)), (ZET (ZEb7 es i)), (ZET (ZEb7 es i)), (ZEG (ZEb7 es i)), (ZET (ZEb4 es i n)), (ZEL (ZEb4 es i n)), (ZET (ZEb4 es i n)), (ZEG (ZEb4 es i n)), (ZET (ZEb0 es i n)), (ZEL (ZEb0 es i n)), (ZET (ZEb0 es i n)), (ZEL (ZEb0 es i n)), (ZET (ZEb0 es i n)), (ZET (ZEb0 es i n)), (ZEG (ZEb0 es i n))] ⟨58, [(1, .i least), (2, .p 102), (6, .p 106), (20, .one (.ro (.arcs es))), (21, .one (ZE3 es)), (ZE7 i), (47, .one (.bool ((((decide (((List.getD es i default).src) < 0)) || (decide (n ≤ ((List.getD es i default).src)))) || (decide (((List.getD es i default).dst) < 0))) || (decide (n ≤ ((List.getD es i default).dst))))))], (ZE2 n es i)⟩ hT (by kernel_rfl) ⟨(by decide), (fun _ h => h), (fun _ => by decide), (fun _ h => h), (fun _ => by decide), (fun _ h => h), (fun _ h => h), id, (fun _ h => h), (fun _ => by decide), (fun _ h => h), id, (fun _ h => h), (fun _ => by decide), (fun _ h => h), (fun _ => by decide), (fun _ h => h), (fun _ h => h), id, trivial⟩ ?_
    refine awp_cond (b := ((((decide (((List.getD es i default).src) < 0)) || (decide (n ≤ ((List.getD es i default).src)))) || (decide (((List.getD es i default).dst) < 0))) || (decide (n ≤ ((List.getD es i default).dst))))) (by kernel_rfl) (fun c8 => ?_) (fun c8 => ?_)
    ·
     try simp only [bs] at c8
     refine kq [] ⟨58, [(4, .i 4)], []⟩ hT (by kernel_rfl) trivial ?_
     refine awp_ret ?_
     refine kRet.ret _ [] [] (.i 4) [] (by kernel_rfl) trivial ?_
     exact ⟨congrArg (fun x1 => (.i x1 : AV)) (show 4 = (graphErr n es least) from by rw [graphErr, if_neg (by omega), if_neg (by omega), ← he, drop_getD es default i (by omega), arcsErr, if_pos (by omega)]), rfl⟩
    ·
     try simp only [bs] at c8
     refine awp_skip ?_
     refine kq [(0 < 1), (ZET (ZEb5 es i least)), (ZEL (ZEb5 es i least)), (ZET (ZEb5 es i least)), (ZEG (ZEb5 es i least))] ⟨58, [(1, .i least), (2, .p 102), (20, .one (.ro (.arcs es))), (21, .one (ZE3 es)), (ZE7 i), (56, .one (.bool ((decide (((List.getD es i default).cap) < least)) || (decide ((10000 : Int) < ((List.getD es i default).cap))))))], (ZE4 n es)⟩ hT (by kernel_rfl) ⟨(by decide), (fun _ h => h), (fun _ => by decide), (fun _ h => h), id, trivial⟩ ?_
     refine awp_cond (b := ((decide (((List.getD es i default).cap) < least)) || (decide ((10000 : Int) < ((List.getD es i default).cap))))) (by kernel_rfl) (fun c10 => ?_) (fun c10 => ?_)
     ·
      try simp only [bs] at c10
      refine kq [] ⟨58, [(4, .i 1)], []⟩ hT (by kernel_rfl) trivial ?_
      refine awp_ret ?_
      refine kRet.ret _ [] [] (.i 1) [] (by kernel_rfl) trivial ?_
      exact ⟨congrArg (fun x1 => (.i x1 : AV)) (show 1 = (graphErr n es least) from by rw [graphErr, if_neg (by omega), if_neg (by omega), ← he, drop_getD es default i (by omega), arcsErr, if_neg (by omega), if_pos (by omega)]), rfl⟩
     ·
      try simp only [bs] at c10
      refine awp_skip ?_
      refine kr [(-9223372036854775808 ≤ (((i + 1) : Nat) : Int) ∧ (((i + 1) : Nat) : Int) ≤ 9223372036854775807)] ⟨58, [(1, .i least), (2, .p 102), (20, .one (.ro (.arcs es))), (21, .one (ZE3 es)), (22, .i (((i + 1) : Nat) : Int))], (ZE4 n es)⟩ hT (by kernel_rfl) ⟨(by omega), trivial⟩ ?_
      refine loop_end _ ?_ ⟨(i + 1), ⟨(by omega), (by rw [← he, drop_getD es default i (by omega), arcsErr, if_neg (by omega), if_neg (by omega)]), rfl⟩, (by kernel_rfl)⟩
      omega
   ·
    try simp only [bs] at c6
    refine awp_exit ?_
    refine kq [] ⟨58, [(4, .i 0)], []⟩ hT (by kernel_rfl) trivial ?_
    refine awp_ret ?_
    refine kRet.ret _ [] [] (.i 0) [] (by kernel_rfl) trivial ?_
    exact ⟨congrArg (fun x1 => (.i x1 : AV)) (show 0 = (graphErr n es least) from by rw [graphErr, if_neg (by omega), if_neg (by omega), ← he, List.drop_of_length_le (by omega)]; rfl), rfl⟩
theorem ref_graphErr (n least : Int) (es : List Arc) : ACall Tryd.prog 39 [.agg (ZE1 n es), .i least] [] (fun ov oh => ov = .i (graphErr n es least) ∧ oh = []) := by
 refine acall_intro hT Tryd.func39 rfl (by kernel_rfl) rfl (by kernel_rfl) ?_
 refine kq [] ⟨54, [(1, .i least), (2, .p 102)], (ZE4 n es)⟩ hT (by kernel_rfl) trivial ?_
 refine awp_seq ?_
 refine awp_block ?_
 refine kq [(0 < 1), (ZET (!(decide (n ≤ 0)))), (ZEL (!(decide (n ≤ 0)))), (ZET (!(decide (n ≤ 0)))), (ZEG (!(decide (n ≤ 0))))] ⟨54, [(1, .i least), (2, .p 102), (7, .one (.bool ((decide (n ≤ 0)) || (decide ((13 : Int) ≤ n)))))], (ZE4 n es)⟩ hT (by kernel_rfl) ⟨(by decide), (fun _ h => h), (fun _ => by decide), (fun _ h => h), id, trivial⟩ ?_
 refine awp_cond (b := ((decide (n ≤ 0)) || (decide ((13 : Int) ≤ n)))) (by kernel_rfl) (fun c1 => ?_) (fun c1 => ?_)
 ·
  try simp only [bs] at c1
  refine kq [] ⟨54, [(4, .i 1)], []⟩ hT (by kernel_rfl) trivial ?_
  refine awp_ret ?_
  refine kRet.ret _ [] [] (.i 1) [] (by kernel_rfl) trivial ?_
  exact ⟨congrArg (fun x1 => (.i x1 : AV)) (show 1 = (graphErr n es least) from by rw [graphErr, if_pos (by omega)]), rfl⟩
 ·
  try simp only [bs] at c1
  refine kq [(0 < 1)] ⟨54, [(1, .i least), (2, .p 102), (16, .one (.bool (decide ((60 : Int) < ((es.length : Nat) : Int)))))], (ZE4 n es)⟩ hT (by kernel_rfl) ⟨(by decide), trivial⟩ ?_
  refine awp_cond (b := (decide ((60 : Int) < ((es.length : Nat) : Int)))) (by kernel_rfl) (fun c3 => ?_) (fun c3 => ?_)
  ·
   try simp only [bs] at c3
   refine kq [] ⟨54, [(4, .i 2)], []⟩ hT (by kernel_rfl) trivial ?_
   refine awp_ret ?_
   refine kRet.ret _ [] [] (.i 2) [] (by kernel_rfl) trivial ?_
   exact ⟨congrArg (fun x1 => (.i x1 : AV)) (show 2 = (graphErr n es least) from by rw [graphErr, if_neg (by omega), if_pos (by omega)]), rfl⟩
  ·
   try simp only [bs] at c3
   refine awp_skip ?_
   refine awp_seq ?_
   refine kq [(0 < 1)] ⟨54, [(1, .i least), (2, .p 102), (22, .one (.ro (.arcs es))), (23, .one (ZE3 es)), (24, .i 0)], (ZE4 n es)⟩ hT (by kernel_rfl) ⟨(by decide), trivial⟩ ?_
   refine awp_block ?_
   refine awp_loop (I := fun κ σ => ∃ (i : Nat), ((i ≤ es.length) ∧ (arcsErr n least (es.drop i) = arcsErr n least es) ∧ es.length - i = κ) ∧ σ = ⟨54, [(1, .i least), (2, .p 102), (22, .one (.ro (.arcs es))), (23, .one (ZE3 es)), (ZE8 i)], (ZE4 n es)⟩) _ ⟨0, ⟨(by omega), (by rfl), rfl⟩, (by kernel_rfl)⟩ ?_
   rintro κ _ ⟨i, ⟨hi, he, rfl⟩, rfl⟩
   refine kq [] ⟨54, [(1, .i least), (2, .p 102), (22, .one (.ro (.arcs es))), (23, .one (ZE3 es)), (ZE8 i), (25, .one (.bool (decide ((i : Int) < ((es.length : Nat) : Int)))))], (ZE4 n es)⟩ hT (by kernel_rfl) trivial ?_
   refine awp_seq ?_
   refine awp_cond (b := (decide ((i : Int) < ((es.length : Nat) : Int)))) (by kernel_rfl) (fun c6 => ?_) (fun c6 => ?_)
   ·
    try simp only [bs] at c6
    refine awp_skip ?_
    refine awp_seq ?_
    refine awp_block ?_
    refine kq [((0 : Int) ≤ (i : Int)), ((i : Int) < ((es.length : Nat) : Int)), (0 < 1)] ⟨54, [(1, .i least), (2, .p 102), (6, .p 106), (22, .one (.ro (.arcs es))), (23, .one (ZE3 es)), (ZE8 i)], (ZE2 n es i)⟩ hT (by kernel_rfl) ⟨(by omega), (by omega), (by decide), trivial⟩ ?_
    refine awp_seq ?_
    refine kq [(0 < 1), (0 < 1), (ZET (ZEb1 es i)), (ZEL (ZEb1 es i)), (ZET (ZEb1 es i)), (ZEL (ZEb1 es i)), (ZET (ZEb1 es i)), (ZET (ZEb1 es i)), (ZET (ZEb1 es i)), (ZEL (ZEb1 es i)), (ZET (ZEb1 es i)), (ZET (ZEb1 es i)), (ZEG (ZEb1 es i))] ⟨54, [(1, .i least), (2, .p 102), (6, .p 106), (22, .one (.ro (.arcs es))), (23, .one (ZE3 es)), (ZE8 i), (43, .one (.bool ((decide ((min ((List.getD es i default).src) ((List.getD es i default).dst)) < 0)) || (decide (n ≤ (max ((List.getD es i default).src) ((List.getD es i default).dst)))))))], (ZE2 n es i)⟩ hT (by kernel_rfl) ⟨(by decide), (by decide), (fun _ h => h), (fun _ => by decide), (fun _ h => h), (fun _ => by decide), (fun _ h => h), (fun _ h => h), (fun _ h => h), (fun _ => by decide), (fun _ h => h), (fun _ h => h), id, trivial⟩ ?_
    refine awp_cond (b := ((decide ((min ((List.getD es i default).src) ((List.getD es i default).dst)) < 0)) || (decide (n ≤ (max ((List.getD es i default).src) ((List.getD es i default).dst)))))) (by kernel_rfl) (fun c8 => ?_) (fun c8 => ?_)
    ·
     try simp only [bs] at c8
     refine kq [] ⟨54, [(4, .i 4)], []⟩ hT (by kernel_rfl) trivial ?_
     refine awp_ret ?_
     refine kRet.ret _ [] [] (.i 4) [] (by kernel_rfl) trivial ?_
     exact ⟨congrArg (fun x1 => (.i x1 : AV)) (show 4 = (graphErr n es least) from by rw [graphErr, if_neg (by omega), if_neg (by omega), ← he, drop_getD es default i (by omega), arcsErr, if_pos (by omega)]), rfl⟩
    ·
     try simp only [bs] at c8
     refine awp_skip ?_
     refine kq [(0 < 1), (ZET (ZEb5 es i least)), (ZEL (ZEb5 es i least)), (ZET (ZEb5 es i least)), (ZEG (ZEb5 es i least))] ⟨54, [(1, .i least), (2, .p 102), (22, .one (.ro (.arcs es))), (23, .one (ZE3 es)), (ZE8 i), (52, .one (.bool ((decide (((List.getD es i default).cap) < least)) || (decide ((10000 : Int) < ((List.getD es i default).cap))))))], (ZE4 n es)⟩ hT (by kernel_rfl) ⟨(by decide), (fun _ h => h), (fun _ => by decide), (fun _ h => h), id, trivial⟩ ?_
     refine awp_cond (b := ((decide (((List.getD es i default).cap) < least)) || (decide ((10000 : Int) < ((List.getD es i default).cap))))) (by kernel_rfl) (fun c10 => ?_) (fun c10 => ?_)
     ·
      try simp only [bs] at c10
      refine kq [] ⟨54, [(4, .i 1)], []⟩ hT (by kernel_rfl) trivial ?_
      refine awp_ret ?_
      refine kRet.ret _ [] [] (.i 1) [] (by kernel_rfl) trivial ?_
      exact ⟨congrArg (fun x1 => (.i x1 : AV)) (show 1 = (graphErr n es least) from by rw [graphErr, if_neg (by omega), if_neg (by omega), ← he, drop_getD es default i (by omega), arcsErr, if_neg (by omega), if_pos (by omega)]), rfl⟩
     ·
      try simp only [bs] at c10
      refine awp_skip ?_
      refine kr [(-9223372036854775808 ≤ (((i + 1) : Nat) : Int) ∧ (((i + 1) : Nat) : Int) ≤ 9223372036854775807)] ⟨54, [(1, .i least), (2, .p 102), (22, .one (.ro (.arcs es))), (23, .one (ZE3 es)), (24, .i (((i + 1) : Nat) : Int))], (ZE4 n es)⟩ hT (by kernel_rfl) ⟨(by omega), trivial⟩ ?_
      refine loop_end _ ?_ ⟨(i + 1), ⟨(by omega), (by rw [← he, drop_getD es default i (by omega), arcsErr, if_neg (by omega), if_neg (by omega)]), rfl⟩, (by kernel_rfl)⟩
      omega
   ·
    try simp only [bs] at c6
    refine awp_exit ?_
    refine kq [] ⟨54, [(4, .i 0)], []⟩ hT (by kernel_rfl) trivial ?_
    refine awp_ret ?_
    refine kRet.ret _ [] [] (.i 0) [] (by kernel_rfl) trivial ?_
    exact ⟨congrArg (fun x1 => (.i x1 : AV)) (show 0 = (graphErr n es least) from by rw [graphErr, if_neg (by omega), if_neg (by omega), ← he, List.drop_of_length_le (by omega)]; rfl), rfl⟩
theorem graph_Check (n : Int) (es : List Arc) : ACall Tryd.prog 27 [.agg (ZE1 n es)] [] (fun ov oh => ov = .one (ZE6 n es) ∧ oh = []) := by
 refine acall_intro hT Tryd.func27 rfl (by kernel_rfl) rfl (by kernel_rfl) ?_
 refine kq [] ⟨5, [(1, .p 101)], [(101, .box 1 2 (ZE1 n es))]⟩ hT (by kernel_rfl) trivial ?_
 refine awp_seq (awp_region ?_)
 refine ko 1 [(0 < 1)] ⟨5, [(3, .agg (ZE1 n es))], []⟩ hT (by kernel_rfl) (by kernel_rfl) ⟨(by decide), trivial⟩ ?_
 refine aops_pure false ⟨true, [], 44, [.agg (ZE1 n es), .i 0], []⟩ [.agg (ZE1 n es), .i 0] (.one (ZE5 n es)) ⟨5, [(3, .agg (ZE1 n es)), (4, .one (ZE5 n es))], []⟩ (by kernel_rfl) (by kernel_rfl) (fun _ => trivial) rfl (fun _ => graph_check n (0) es) ?_
 refine ko 1 [] ⟨5, [(2, .one (ZE5 n es))], []⟩ hT (by kernel_rfl) (by kernel_rfl) trivial ?_
 refine aops_end_seq (by kernel_rfl) ?_
 refine awp_ret ?_
 refine kRet.ret _ [] [] (.one (ZE5 n es)) [] (by kernel_rfl) trivial ?_
 exact ⟨congrArg (fun x1 => (.i x1 : AV)) (show (graphErr n es (0)) = (graphErr n es 0) from by rfl), rfl⟩
theorem graph_CheckNet (n s t : Int) (es : List Arc) : ACall Tryd.prog 13 [.agg [(.i n), (.i s), (.i t), (.ro (.arcs es))]] [] (fun ov oh => ov = .i (netErr n s t es) ∧ oh = []) := by
 refine acall_intro hT Tryd.func13 rfl (by kernel_rfl) rfl (by kernel_rfl) ?_
 refine kq [] ⟨40, [(1, .p 101)], (ZE0 n s t es)⟩ hT (by kernel_rfl) trivial ?_
 refine awp_seq ?_
 refine awp_seq (awp_region ?_)
 refine ko 5 [(0 < 1), (0 < 1)] ⟨40, [(1, .p 101), (8, .agg (ZE1 n es))], (ZE0 n s t es)⟩ hT (by kernel_rfl) (by kernel_rfl) ⟨(by decide), (by decide), trivial⟩ ?_
 refine aops_pure false ⟨true, [], 27, [.agg (ZE1 n es)], []⟩ [.agg (ZE1 n es)] (.one (ZE6 n es)) ⟨40, [(1, .p 101), (8, .agg (ZE1 n es)), (9, .one (ZE6 n es))], (ZE0 n s t es)⟩ (by kernel_rfl) (by kernel_rfl) (fun _ => trivial) rfl (fun _ => graph_Check n es) ?_
 refine ko 1 [] ⟨40, [(1, .p 101), (3, .one (ZE6 n es))], (ZE0 n s t es)⟩ hT (by kernel_rfl) (by kernel_rfl) trivial ?_
 refine aops_end_seq (by kernel_rfl) ?_
 refine kq [] ⟨40, [(1, .p 101), (3, .one (ZE6 n es)), (11, .one (.bool (decide ((graphErr n es 0) ≠ 0))))], (ZE0 n s t es)⟩ hT (by kernel_rfl) trivial ?_
 refine awp_cond (b := (decide ((graphErr n es 0) ≠ 0))) (by kernel_rfl) (fun c2 => ?_) (fun c2 => ?_)
 ·
  try simp only [bs] at c2
  refine kq [] ⟨40, [(2, .one (ZE6 n es))], []⟩ hT (by kernel_rfl) trivial ?_
  refine awp_ret ?_
  refine kRet.ret _ [] [] (.one (ZE6 n es)) [] (by kernel_rfl) trivial ?_
  exact ⟨congrArg (fun x1 => (.i x1 : AV)) (show (graphErr n es 0) = (netErr n s t es) from by rw [netErr, if_pos c2]), rfl⟩
 ·
  try simp only [bs] at c2
  refine awp_skip ?_
  refine awp_seq ?_
  refine kq [(0 < 1), (ZET (!(decide (s < 0)))), (ZEL (!(decide (s < 0)))), (ZET (!(decide (s < 0)))), (ZEL (!(decide (s < 0)))), (ZET (!(decide (s < 0)))), (ZET (!(decide (s < 0)))), (ZEG (!(decide (s < 0)))), (ZET (!((decide (s < 0)) || (decide (n ≤ s))))), (ZEL (!((decide (s < 0)) || (decide (n ≤ s))))), (ZET (!((decide (s < 0)) || (decide (n ≤ s))))), (ZEG (!((decide (s < 0)) || (decide (n ≤ s))))), (ZET (ZEb3 s n t)), (ZEL (ZEb3 s n t)), (ZET (ZEb3 s n t)), (ZEL (ZEb3 s n t)), (ZET (ZEb3 s n t)), (ZET (ZEb3 s n t)), (ZEG (ZEb3 s n t))] ⟨40, [(1, .p 101), (34, .one (.bool ((((decide (s < 0)) || (decide (n ≤ s))) || (decide (t < 0))) || (decide (n ≤ t)))))], (ZE0 n s t es)⟩ hT (by kernel_rfl) ⟨(by decide), (fun _ h => h), (fun _ => by decide), (fun _ h => h), (fun _ => by decide), (fun _ h => h), (fun _ h => h), id, (fun _ h => h), (fun _ => by decide), (fun _ h => h), id, (fun _ h => h), (fun _ => by decide), (fun _ h => h), (fun _ => by decide), (fun _ h => h), (fun _ h => h), id, trivial⟩ ?_
  refine awp_cond (b := ((((decide (s < 0)) || (decide (n ≤ s))) || (decide (t < 0))) || (decide (n ≤ t)))) (by kernel_rfl) (fun c4 => ?_) (fun c4 => ?_)
  ·
   try simp only [bs] at c4
   refine kq [] ⟨40, [(2, .i 4)], []⟩ hT (by kernel_rfl) trivial ?_
   refine awp_ret ?_
   refine kRet.ret _ [] [] (.i 4) [] (by kernel_rfl) trivial ?_
   exact ⟨congrArg (fun x1 => (.i x1 : AV)) (show 4 = (netErr n s t es) from by rw [netErr, if_neg c2, if_pos (by omega)]), rfl⟩
  ·
   try simp only [bs] at c4
   refine awp_skip ?_
   refine awp_seq ?_
   refine kq [(0 < 1), (0 < 1)] ⟨40, [(39, .one (.bool (decide (s = t))))], []⟩ hT (by kernel_rfl) ⟨(by decide), (by decide), trivial⟩ ?_
   refine awp_cond (b := (decide (s = t))) (by kernel_rfl) (fun c6 => ?_) (fun c6 => ?_)
   ·
    try simp only [bs] at c6
    refine kq [] ⟨40, [(2, .i 3)], []⟩ hT (by kernel_rfl) trivial ?_
    refine awp_ret ?_
    refine kRet.ret _ [] [] (.i 3) [] (by kernel_rfl) trivial ?_
    exact ⟨congrArg (fun x1 => (.i x1 : AV)) (show 3 = (netErr n s t es) from by rw [netErr, if_neg c2, if_neg (by omega), if_pos c6]), rfl⟩
   ·
    try simp only [bs] at c6
    refine awp_skip ?_
    refine kq [] ⟨40, [(2, .i 0)], []⟩ hT (by kernel_rfl) trivial ?_
    refine awp_ret ?_
    refine kRet.ret _ [] [] (.i 0) [] (by kernel_rfl) trivial ?_
    exact ⟨congrArg (fun x1 => (.i x1 : AV)) (show 0 = (netErr n s t es) from by rw [netErr, if_neg c2, if_neg (by omega), if_neg c6]), rfl⟩
theorem ref_NetErr (n s t : Int) (es : List Arc) : ACall Tryd.prog 22 [.agg [(.i n), (.i s), (.i t), (.ro (.arcs es))]] [] (fun ov oh => ov = .i (netErr n s t es) ∧ oh = []) := by
 refine acall_intro hT Tryd.func22 rfl (by kernel_rfl) rfl (by kernel_rfl) ?_
 refine kq [] ⟨40, [(1, .p 101)], (ZE0 n s t es)⟩ hT (by kernel_rfl) trivial ?_
 refine awp_seq (awp_region ?_)
 refine ko 5 [(0 < 1), (0 < 1)] ⟨40, [(1, .p 101), (8, .agg (ZE1 n es))], (ZE0 n s t es)⟩ hT (by kernel_rfl) (by kernel_rfl) ⟨(by decide), (by decide), trivial⟩ ?_
 refine aops_pure false ⟨true, [], 39, [.agg (ZE1 n es), .i 0], []⟩ [.agg (ZE1 n es), .i 0] (.one (ZE5 n es)) ⟨40, [(1, .p 101), (8, .agg (ZE1 n es)), (9, .one (ZE5 n es))], (ZE0 n s t es)⟩ (by kernel_rfl) (by kernel_rfl) (fun _ => trivial) rfl (fun _ => ref_graphErr n (0) es) ?_
 refine ko 1 [] ⟨40, [(1, .p 101), (3, .one (ZE5 n es))], (ZE0 n s t es)⟩ hT (by kernel_rfl) (by kernel_rfl) trivial ?_
 refine aops_end_seq (by kernel_rfl) ?_
 refine awp_seq ?_
 refine kq [(ZET (ZEb6 n es)), (ZEL (ZEb6 n es)), (ZET (ZEb6 n es)), (ZEL (ZEb6 n es)), (ZET (ZEb6 n es)), (ZET (ZEb6 n es)), (ZET (ZEb6 n es)), (ZET (ZEb6 n es)), (ZET (ZEb2 n es s t)), (ZEL (ZEb2 n es s t)), (ZET (ZEb2 n es s t)), (ZEL (ZEb2 n es s t)), (ZET (ZEb2 n es s t)), (ZET (ZEb2 n es s t)), (ZET (ZEb2 n es s t)), (ZEL (ZEb2 n es s t)), (ZET (ZEb2 n es s t)), (ZET (ZEb2 n es s t)), (ZET (ZEb6 n es)), ((ZEb6 n es) = true → (ZEG ((decide ((graphErr n es (0)) = 0)) && (!(decide ((min s t) < 0)))))), (ZEG (ZEb6 n es))] ⟨40, [(1, .p 101), (3, .one (ZE5 n es)), (29, .one (.bool ((decide ((graphErr n es (0)) = 0)) && ((decide ((min s t) < 0)) || (decide (n ≤ (max s t)))))))], (ZE0 n s t es)⟩ hT (by kernel_rfl) ⟨(fun _ h => h), (fun _ => by decide), (fun _ h => h), (fun _ => by decide), (fun _ h => h), (fun _ h => h), (fun _ h => h), (fun _ h => h), (fun _ h => h), (fun _ => by decide), (fun _ h => h), (fun _ => by decide), (fun _ h => h), (fun _ h => h), (fun _ h => h), (fun _ => by decide), (fun _ h => h), (fun _ h => h), (fun _ h => h), (by intro hg; first | exact hg | skip; (try simp only [bs, ZEb2, ZEb6] at hg ⊢); first | exact hg | first | omega | (simp only [lens]; omega) | (simp only [Bool.cond_decide]; omega) | (simp only [nadd_eq]; omega) | grind), id, trivial⟩ ?_
 refine awp_join_tail (fun σ => ∃ (e : Int), (e = if graphErr n es 0 ≠ 0 then graphErr n es 0 else if s < 0 ∨ n ≤ s ∨ t < 0 ∨ n ≤ t then 4 else 0) ∧ σ = ⟨40, [(1, .p 101), (3, .i e)], (ZE0 n s t es)⟩) ?_ ?_
 ·
  refine awp_cond (b := ((decide ((graphErr n es (0)) = 0)) && ((decide ((min s t) < 0)) || (decide (n ≤ (max s t)))))) (by kernel_rfl) (fun c2 => ?_) (fun c2 => ?_)
  ·
   try simp only [bs] at c2
   refine kr [] ⟨40, [(1, .p 101), (3, .i 4)], (ZE0 n s t es)⟩ hT (by kernel_rfl) trivial ?_
   exact jend ⟨4, (by omega), (by kernel_rfl)⟩
  ·
   try simp only [bs] at c2
   refine kv ⟨40, [(1, .p 101), (3, .one (ZE5 n es))], (ZE0 n s t es)⟩ (by kernel_rfl) ?_
   refine awp_skip ?_
   exact jend ⟨(graphErr n es (0)), (by omega), (by kernel_rfl)⟩
 rintro _ ⟨e, he, rfl⟩
 refine awp_seq ?_
 refine kq [(ZET (decide (e = 0))), (ZEL (decide (e = 0))), (ZET (decide (e = 0))), (ZEL (decide (e = 0))), (ZET (decide (e = 0))), (ZET (decide (e = 0))), (ZEG (decide (e = 0)))] ⟨40, [(3, .i e), (38, .one (.bool ((decide (e = 0)) && (decide (s = t)))))], []⟩ hT (by kernel_rfl) ⟨(fun _ h => h), (fun _ => by decide), (fun _ h => h), (fun _ => by decide), (fun _ h => h), (fun _ h => h), id, trivial⟩ ?_
 refine awp_join_tail (fun σ => ∃ (e2 : Int), (e2 = netErr n s t es) ∧ σ = ⟨40, [(3, .i e2)], []⟩) ?_ ?_
 ·
  refine awp_cond (b := ((decide (e = 0)) && (decide (s = t)))) (by kernel_rfl) (fun c4 => ?_) (fun c4 => ?_)
  ·
   try simp only [bs] at c4
   refine kr [] ⟨40, [(3, .i 3)], []⟩ hT (by kernel_rfl) trivial ?_
   exact jend ⟨3, (by unfold netErr; omega), (by kernel_rfl)⟩
  ·
   try simp only [bs] at c4
   refine kv ⟨40, [(3, .i e)], []⟩ (by kernel_rfl) ?_
   refine awp_skip ?_
   exact jend ⟨e, (by unfold netErr; omega), (by kernel_rfl)⟩
 rintro _ ⟨e2, h2, rfl⟩
 refine kq [] ⟨40, [(2, .i e2)], []⟩ hT (by kernel_rfl) trivial ?_
 refine awp_ret ?_
 refine kRet.ret _ [] [] (.i e2) [] (by kernel_rfl) trivial ?_
 exact ⟨congrArg (fun x1 => (.i x1 : AV)) (show e2 = (netErr n s t es) from by exact h2), rfl⟩
end Go.Ab
