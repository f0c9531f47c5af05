/- Of what a flow costs: a shortest way, and what goes along it: the plain laws. -/
import Derived.Test.YtglkldhjffnhhaaPlCheap
namespace Go.Ab
/-! ### What a flow costs -/
def dear : List Int → List Int → Int
  | c :: cs, x :: xs => x * c + dear cs xs
  | _, _ => 0
theorem dear_drop {cost f : List Int} {i : Nat} (h1 : i < cost.length) (h2 : i < f.length) : dear (cost.drop i) (f.drop i) = f.getD i 0 * cost.getD i 0 + dear (cost.drop (i + 1)) (f.drop (i + 1)) := by
  rw [drop_getD cost 0 i h1, drop_getD f 0 i h2]; rfl
theorem dear_end {cost f : List Int} {i : Nat} (h : f.length ≤ i) : dear (cost.drop i) (f.drop i) = 0 := by
  rw [List.drop_of_length_le h]
  cases cost.drop i <;> rfl
theorem dear_set : ∀ {cost f : List Int} {k : Nat} {x : Int}, k < f.length → cost.length = f.length → dear cost (f.set k x) = dear cost f + (x - f.getD k 0) * cost.getD k 0
  | [], [], _, _, h, _ => by simp at h
  | [], _ :: _, _, _, _, h => by simp at h
  | _ :: _, [], _, _, h, _ => by simp at h
  | c :: cs, y :: ys, 0, x, _, _ => by
    simp only [List.set_cons_zero, dear, List.getD_cons_zero]
    rw [Int.sub_mul]; omega
  | c :: cs, y :: ys, k + 1, x, h, hl => by
    have := dear_set (cost := cs) (f := ys) (k := k) (x := x) (by simpa using h) (by simpa using hl)
    simp only [List.set_cons_succ, dear, List.getD_cons_succ]
    omega
theorem dear_zeros : ∀ (cost : List Int) (m : Nat), dear cost (List.replicate m 0) = 0
  | [], m => by cases m <;> rfl
  | c :: cs, 0 => rfl
  | c :: cs, m + 1 => by rw [List.replicate_succ, dear, dear_zeros cs m]; omega
theorem dear_in : ∀ {cost f : List Int}, cost.length = f.length → (∀ k, k < cost.length → 0 ≤ cost.getD k 0 ∧ cost.getD k 0 ≤ 1000) → (∀ k, k < f.length → 0 ≤ f.getD k 0 ∧ f.getD k 0 ≤ 10000) → 0 ≤ dear cost f ∧ dear cost f ≤ 10000000 * (f.length : Int)
  | [], [], _, _, _ => by simp [dear]
  | [], _ :: _, h, _, _ => by simp at h
  | _ :: _, [], h, _, _ => by simp at h
  | c :: cs, y :: ys, h, hc, hf => by
    have h1 := hc 0 (by simp)
    have h2 := hf 0 (by simp)
    simp only [List.getD_cons_zero] at h1 h2
    have h3 := dear_in (cost := cs) (f := ys) (by simpa using h) (fun k hk => by have := hc (k + 1) (by simpa using hk); simpa using this) (fun k hk => by have := hf (k + 1) (by simpa using hk); simpa using this)
    have h4 := Int.mul_nonneg h2.1 h1.1
    have h5 : y * c ≤ 10000 * 1000 := Int.mul_le_mul h2.2 h1.2 h1.1 (by decide)
    simp only [dear, List.length_cons]
    omega
theorem CostOk.dear_in {es : List Arc} {cost f : List Int} (hc : CostOk es cost) (hf : FIn es f) (h10 : ∀ k, k < es.length → f.getD k 0 ≤ 10000) : 0 ≤ dear cost f ∧ dear cost f ≤ 300000000 := by
  have h1 := hc.1
  have h2 := hc.2.1
  have h3 := hf.len
  have := Go.Ab.dear_in (cost := cost) (f := f) (by omega) (fun k hk => hc.2.2 k (by omega)) (fun k hk => ⟨(hf.at_ k (by omega)).1, h10 k (by omega)⟩)
  omega
/-! ### Along a way -/
def wcost (cost : List Int) : List (Int × Bool) → Int
  | [] => 0
  | p :: r => stepC cost p.1 p.2 + wcost cost r
theorem wcost_snoc (cost : List Int) (p : Int × Bool) : ∀ l : List (Int × Bool), wcost cost (l ++ [p]) = wcost cost l + stepC cost p.1 p.2
  | [] => by simp [wcost]
  | q :: r => by rw [List.cons_append, wcost, wcost, wcost_snoc cost p r]; omega
theorem augStep_get {room : Int} {f : List Int} {p : Int × Bool} (h : p.1.toNat < f.length) (k : Nat) : (augStep room f p).getD k 0 = if k = p.1.toNat then (if p.2 = true then f.getD k 0 - room else f.getD k 0 + room) else f.getD k 0 := by
  unfold augStep
  by_cases e : k = p.1.toNat
  · rw [if_pos e, e, getD_set_self _ _ _ _ h]
  · rw [if_neg e, getD_set_ne _ _ _ _ _ (Ne.symm e)]
theorem aug_dear {cost : List Int} (room : Int) : ∀ (l : List (Int × Bool)) {f : List Int}, (∀ p ∈ l, 0 ≤ p.1 ∧ p.1 < f.length) → cost.length = f.length → dear cost (l.foldl (augStep room) f) = dear cost f + room * wcost cost l
  | [], f, _, _ => by simp [wcost]
  | p :: r, f, h, hl => by
    have hp := h p List.mem_cons_self
    have hlen : (augStep room f p).length = f.length := by simp [augStep]
    rw [List.foldl_cons, aug_dear room r (fun q hq => by rw [hlen]; exact h q (List.mem_cons_of_mem _ hq)) (by omega), wcost, Int.mul_add]
    have : dear cost (augStep room f p) = dear cost f + room * stepC cost p.1 p.2 := by
      unfold augStep
      rw [dear_set (by omega) hl]
      unfold stepC
      split
      · rw [show f.getD p.1.toNat 0 - room - f.getD p.1.toNat 0 = -room by omega, Int.neg_mul, Int.mul_neg]
      · rw [show f.getD p.1.toNat 0 + room - f.getD p.1.toNat 0 = room by omega]
    omega
theorem aug_at {room : Int} : ∀ {l : List (Int × Bool)} {f : List Int}, Once l → (∀ p ∈ l, 0 ≤ p.1 ∧ p.1 < f.length) → ∀ p ∈ l, (l.foldl (augStep room) f).getD p.1.toNat 0 = if p.2 = true then f.getD p.1.toNat 0 - room else f.getD p.1.toNat 0 + room
  | [], _, _, _, p, hp => by cases hp
  | q :: r, f, ho, h, p, hp => by
    have hq := h q List.mem_cons_self
    have hlen : (augStep room f q).length = f.length := by simp [augStep]
    rw [List.foldl_cons]
    rcases List.mem_cons.1 hp with rfl | hp
    · rw [aug_get room r _ (fun x hx e => by have h1 := ho.1 x hx; have h2 := h x (List.mem_cons_of_mem _ hx); omega), augStep_get (by omega), if_pos rfl]
    · have h1 := ho.1 p hp
      have h2 := h p (List.mem_cons_of_mem _ hp)
      rw [aug_at ho.2 (fun x hx => by rw [hlen]; exact h x (List.mem_cons_of_mem _ hx)) p hp, augStep_get (room := room) (f := f) (p := q) (by omega) p.1.toNat, if_neg (show ¬ p.1.toNat = q.1.toNat by omega)]
theorem res_aug {es : List Arc} {f : List Int} {l : List (Int × Bool)} {room : Int} (h0 : 0 < room) (ho : Once l) (hl : ∀ p ∈ l, 0 ≤ p.1 ∧ p.1 < es.length) (hf : f.length = es.length) {k : Int} {b : Bool} {u v : Int} (h : Res es (l.foldl (augStep room) f) k b u v) :
    Res es f k b u v ∨ ∃ p ∈ l, p.1 = k ∧ p.2 = !b := by
  obtain ⟨k0, k1, hr⟩ := h
  by_cases hm : ∃ p ∈ l, p.1 = k
  · obtain ⟨p, hp, rfl⟩ := hm
    have hat := aug_at (room := room) ho (fun q hq => by rw [hf]; exact hl q hq) p hp
    cases hb : b <;> cases hp2 : p.2
    · left
      rw [hp2] at hat
      rw [hb] at hr
      simp only [Bool.false_eq_true, if_false] at hr hat
      exact ⟨k0, k1, by simp only [Bool.false_eq_true, if_false]; exact ⟨hr.1, hr.2.1, by omega⟩⟩
    · exact .inr ⟨p, hp, rfl, by rw [hp2]; rfl⟩
    · exact .inr ⟨p, hp, rfl, by rw [hp2]; rfl⟩
    · left
      rw [hp2] at hat
      rw [hb] at hr
      simp only [if_true] at hr hat
      exact ⟨k0, k1, by simp only [if_true]; exact ⟨hr.1, hr.2.1, by omega⟩⟩
  · left
    have hg := aug_get room (k := k.toNat) l f (fun q hq e => hm ⟨q, hq, by have := hl q hq; omega⟩)
    rw [hg] at hr
    exact ⟨k0, k1, hr⟩
theorem Res.back {es : List Arc} {f : List Int} {k : Int} {b b' : Bool} {u v u' v' : Int} {g : List Int} (h : Res es f k b u v) (h2 : Res es g k b' u' v') (hb : b = !b') : u' = v ∧ v' = u := by
  subst hb
  obtain ⟨_, _, h⟩ := h
  obtain ⟨_, _, h2⟩ := h2
  cases b'
  · simp only [Bool.not_false, if_true, Bool.false_eq_true, if_false] at h h2
    exact ⟨h2.1.symm.trans h.2.1, h2.2.1.symm.trans h.1⟩
  · simp only [Bool.not_true, if_true, Bool.false_eq_true, if_false] at h h2
    exact ⟨h2.1.symm.trans h.2.1, h2.2.1.symm.trans h.1⟩
theorem top_ex {α : Type} (F : α → Int) : ∀ l : List α, ∃ K, ∀ a ∈ l, F a ≤ K
  | [] => ⟨0, fun a ha => by cases ha⟩
  | x :: r => by
    obtain ⟨K, hK⟩ := top_ex F r
    refine ⟨max K (F x), fun a ha => ?_⟩
    rcases List.mem_cons.1 ha with rfl | ha
    · omega
    · have := hK a ha; omega
/-- A step of a shortest way. -/
def Tgt (es : List Arc) (cost f far : List Int) (kn : List Bool) (p : Int × Bool) : Prop := ∃ u v, Res es f p.1 p.2 u v ∧ kn.getD u.toNat false = true ∧ kn.getD v.toNat false = true ∧ far.getD v.toNat 0 = far.getD u.toNat 0 + stepC cost p.1 p.2
theorem far_rs {n s : Int} {es : List Arc} {cost f far : List Int} {kn : List Bool} (hF : Far n (leftA es cost f es.length) (fun x => x = s) far kn) (hin : ∀ u v c, RS es cost f u v c → 0 ≤ u ∧ u < n) {u v c : Int} (hr : RS es cost f u v c) (hk : kn.getD u.toNat false = true) : kn.getD v.toNat false = true ∧ far.getD v.toNat 0 ≤ far.getD u.toNat 0 + c := by
  obtain ⟨a, ha, rfl, rfl, rfl⟩ := (left_arcs es cost f).2 u v c hr
  obtain ⟨u0, u1⟩ := hin _ _ _ hr
  obtain ⟨Y, hY⟩ := hF.rx.snd a.src u0 u1 hk
  exact hF.low _ _ _ (Wl.arc ha hY)
theorem pot_aug {n s t : Int} {es : List Arc} {cost f far : List Int} {kn : List Bool} {l : List (Int × Bool)} {room : Int} (hn : NOk n s t es) (hc : CostOk es cost) (hf : f.length = es.length) (hP : Pot (RS es cost f)) (hF : Far n (leftA es cost f es.length) (fun x => x = s) far kn)
    (h0 : 0 < room) (ho : Once l) (hl : ∀ p ∈ l, 0 ≤ p.1 ∧ p.1 < es.length) (ht : ∀ p ∈ l, Tgt es cost f far kn p) : Pot (RS es cost (l.foldl (augStep room) f)) := by
  obtain ⟨h, hh⟩ := hP
  have hin : ∀ u v c, RS es cost f u v c → 0 ≤ u ∧ u < n := fun u v c hr => ⟨(hr.in_ hn hc).1, (hr.in_ hn hc).2.1⟩
  obtain ⟨K, hK⟩ := top_ex (fun a : Arc => far.getD a.dst.toNat 0 - h a.src - a.cap) (leftA es cost f es.length)
  have hold : ∀ u v c, RS es cost f u v c → (if kn.getD v.toNat false = true then far.getD v.toNat 0 else h v + K) ≤ (if kn.getD u.toNat false = true then far.getD u.toNat 0 else h u + K) + c := fun u v c hr => by
    by_cases hu : kn.getD u.toNat false = true
    · obtain ⟨g1, g2⟩ := far_rs hF hin hr hu
      rw [if_pos hu, if_pos g1]; exact g2
    · rw [if_neg hu]
      by_cases hv : kn.getD v.toNat false = true
      · rw [if_pos hv]
        obtain ⟨a, ha, rfl, rfl, rfl⟩ := (left_arcs es cost f).2 u v c hr
        have := hK a ha
        omega
      · rw [if_neg hv]
        have := hh u v c hr
        omega
  refine ⟨fun v => if kn.getD v.toNat false = true then far.getD v.toNat 0 else h v + K, fun u v c hr => ?_⟩
  obtain ⟨k, b, hr, rfl⟩ := hr
  rcases res_aug h0 ho hl hf hr with q | ⟨p, hp, rfl, hpb⟩
  · exact hold u v _ ⟨k, b, q, rfl⟩
  · obtain ⟨u', v', h1, h2, h3, h4⟩ := ht p hp
    obtain ⟨e1, e2⟩ := h1.back hr hpb
    subst e1 e2
    show (if kn.getD v.toNat false = true then far.getD v.toNat 0 else h v + K) ≤ (if kn.getD u.toNat false = true then far.getD u.toNat 0 else h u + K) + stepC cost p.1 b
    rw [if_pos h2, if_pos h3]
    have : stepC cost p.1 p.2 = -stepC cost p.1 b := by
      rw [hpb]
      unfold stepC
      cases b <;> simp
    omega
/-- What 'back' answers. -/
structure BackOk (s t : Int) (es : List Arc) (cost f far : List Int) (kn : List Bool) (L : List Int) (room : Int) : Prop where
  ch : ChainB es f t (L.map toP) s
  once : Once (L.map toP)
  r0 : 0 < room
  r1 : room ≤ 10000
  rm : ∀ p ∈ L.map toP, room ≤ room1 es f p
  ks : ∀ x ∈ L, 0 ≤ x ∧ x < 2 * es.length
  cost_ : wcost cost (L.map toP) = far.getD t.toNat 0 - far.getD s.toNat 0
  tg : ∀ p ∈ L.map toP, Tgt es cost f far kn p
  ln : L.length ≤ 12
theorem far_zero {n s : Int} {es : List Arc} {cost f far : List Int} {kn : List Bool} (hF : Far n (leftA es cost f es.length) (fun x => x = s) far kn) (hP : Pot (RS es cost f)) (hin : ∀ u v c, RS es cost f u v c → u < n) (s0 : 0 ≤ s) (s1 : s < n) : far.getD s.toNat 0 = 0 := by
  obtain ⟨g1, g2⟩ := hF.low s [] 0 ⟨rfl, rfl⟩
  obtain ⟨Y, hY⟩ := hF.rx.snd s s0 s1 g1
  rcases Wl.wc (left_arcs es cost f) hin hY with ⟨_, h⟩ | h
  · exact h
  · have : ¬ far.getD s.toNat 0 < 0 := fun q => hP.none (n := n) ⟨s, _, h, q⟩
    omega
/-- Where it stands: so much has gone, for as little as can be. -/
structure Ssp (n s t : Int) (es : List Arc) (cost f : List Int) (gone_ sum : Int) : Prop where
  fl : FlOk n s t es f
  gone_ : gone es f s = gone_
  pot : Pot (RS es cost f)
  sum : sum = dear cost f
theorem Ssp.start {n s t : Int} {es : List Arc} {cost : List Int} (hn : NOk n s t es) (hc : CostOk es cost) : Ssp n s t es cost (List.replicate es.length 0) 0 0 := by
  refine ⟨flowErr_ok (flowErr_zeros hn.err), gone_zeros s es, ⟨fun _ => 0, fun u v c hr => ?_⟩, (dear_zeros _ _).symm⟩
  obtain ⟨k, b, ⟨k0, k1, hr⟩, rfl⟩ := hr
  have h3 := hc.2.2 k.toNat (by omega)
  cases b
  · unfold stepC; simp only [Bool.false_eq_true, if_false]; omega
  · simp only [if_true] at hr
    rw [getD_zeros] at hr
    omega
theorem Ssp.next {n s t : Int} {es : List Arc} {cost f far : List Int} {kn : List Bool} {L : List Int} {room r g sum : Int} (h : Ssp n s t es cost f g sum) (hc : CostOk es cost) (hF : Far n (leftA es cost f es.length) (fun x => x = s) far kn) (hB : BackOk s t es cost f far kn L room) (r0 : 0 < r) (r1 : r ≤ room) :
    Ssp n s t es cost ((L.map toP).foldl (augStep r) f) (g + r) (sum + r * far.getD t.toNat 0) := by
  have hn := h.fl.net
  have hl : ∀ p ∈ L.map toP, 0 ≤ p.1 ∧ p.1 < es.length := fun p hp => by
    obtain ⟨x, hx, rfl⟩ := List.mem_map.1 hp
    have := hB.ks x hx
    unfold toP
    simp only
    omega
  have hfl := h.fl.fin.len
  obtain ⟨a1, a2⟩ := h.fl.along r0 hB.ch hB.once (fun p hp => by have := hB.rm p hp; omega)
  have hz := far_zero hF h.pot (fun u v c hr => (hr.in_ hn hc).2.1) hn.s0 hn.s1
  refine ⟨a1, by rw [a2, h.gone_], pot_aug hn hc hfl h.pot hF r0 hB.once hl hB.tg, ?_⟩
  rw [aug_dear r _ (fun p hp => by rw [hfl]; exact hl p hp) (by have := hc.2.1; omega), hB.cost_, hz, h.sum, Int.sub_zero]
/-- Nothing more can go. -/
theorem Ssp.full {n s t : Int} {es : List Arc} {cost f far : List Int} {kn : List Bool} {g sum : Int} (h : Ssp n s t es cost f g sum) (hc : CostOk es cost) (hF : Far n (leftA es cost f es.length) (fun x => x = s) far kn) (ht : kn.getD t.toNat false = false) : g = (parted n s t es).1 := by
  have hn := h.fl.net
  have hin : ∀ u v c, RS es cost f u v c → 0 ≤ u ∧ u < n := fun u v c hr => ⟨(hr.in_ hn hc).1, (hr.in_ hn hc).2.1⟩
  have hks : kn.getD s.toNat false = true := (hF.low s [] 0 ⟨rfl, rfl⟩).1
  have hb : ∀ v : Int, 0 ≤ v → v < n → bit ((maskOf (fun v => kn.getD v false) n.toNat : Nat) : Int) v = if kn.getD v.toNat false = true then 1 else 0 := fun v v0 v1 => by
    have h1 := bit_nat (maskOf (fun v => kn.getD v false) n.toNat) v.toNat
    rw [maskOf_bit _ _ _ (by omega)] at h1
    rw [show v = ((v.toNat : Nat) : Int) by omega, h1, Int.toNat_natCast]
    split <;> rfl
  have hz : Parts n s t ((maskOf (fun v => kn.getD v false) n.toNat : Nat) : Int) := by
    refine ⟨Int.natCast_nonneg _, ?_, ?_, ?_⟩
    · have := maskOf_lt (fun v => kn.getD v false) n.toNat; omega
    · rw [hb s hn.s0 hn.s1, if_pos hks]
    · rw [hb t hn.t0 hn.t1, if_neg (by rw [ht]; decide)]
  rw [← h.gone_]
  refine greatest h.fl hz fun k hk => ?_
  obtain ⟨a1, a2, a3, a4, _, _⟩ := hn.at_ hk
  have hfk := h.fl.fin.at_ k hk
  have hF1 : kn.getD (es.getD k default).src.toNat false = true → f.getD k 0 < (es.getD k default).cap → kn.getD (es.getD k default).dst.toNat false = true := fun q1 q2 =>
    (far_rs hF hin (u := (es.getD k default).src) (v := (es.getD k default).dst) ⟨(k : Int), false, ⟨by omega, by omega, by simp only [Bool.false_eq_true, if_false, Int.toNat_natCast]; exact ⟨trivial, trivial, q2⟩⟩, rfl⟩ q1).1
  have hF2 : kn.getD (es.getD k default).dst.toNat false = true → 0 < f.getD k 0 → kn.getD (es.getD k default).src.toNat false = true := fun q1 q2 =>
    (far_rs hF hin (u := (es.getD k default).dst) (v := (es.getD k default).src) ⟨(k : Int), true, ⟨by omega, by omega, by simp only [if_true, Int.toNat_natCast]; exact ⟨trivial, trivial, q2⟩⟩, rfl⟩ q1).1
  rw [hb _ a1 a2, hb _ a3 a4]
  by_cases c1 : kn.getD (es.getD k default).src.toNat false = true <;> by_cases c2 : kn.getD (es.getD k default).dst.toNat false = true
  · rw [if_pos c1, if_pos c2]; constructor <;> intros <;> omega
  · have hno : ¬ f.getD k 0 < (es.getD k default).cap := fun q => c2 (hF1 c1 q)
    rw [if_pos c1, if_neg c2]; constructor <;> intros <;> omega
  · have hno : ¬ 0 < f.getD k 0 := fun q => c1 (hF2 c2 q)
    rw [if_neg c1, if_pos c2]; constructor <;> intros <;> omega
  · rw [if_neg c1, if_neg c2]; constructor <;> intros <;> omega
/-- No more goes than what parts the least. -/
theorem flow_le {n s t : Int} {es : List Arc} {f : List Int} (h : FlOk n s t es f) : gone es f s ≤ (parted n s t es).1 := by
  obtain ⟨z, hz⟩ := MinCut.exists_ h.net
  rw [← hz.2, ← side_value h hz.1]
  exact side_le hz.1.1 h.fin
end Go.Ab
