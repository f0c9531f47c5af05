/- Of what parts a graph at all: by a tree of the pairs, by what joins all, by how many trees there are. -/
import Derived.Test.YtakfbagokponeaaPlForest
import Derived.Test.YtakfbagokponeaaPlSpan3
import Derived.Test.YtakfbagokponeaaPlLeast2
namespace Go.Ab
theorem Dr_arc {n : Nat} {pre post : List Arc} {a : Arc} {u v : Nat} (hu : u < n) (hv : v < n) (he : ends a u v) {R : Nat → Bool} (hR : R u = true) (hk : ¬ R v = true) :
    Dr n (pre ++ a :: post) R = Dr n (pre ++ post) R + Dr n (pre ++ post) (orR R v) := by
  have hfk : u ≠ v := fun e => hk (by rw [← e]; exact hR)
  have hlap : ∀ i j, lap (pre ++ a :: post) i j = lap (pre ++ post) i j + (unit u i - unit v i) * (unit u j - unit v j) := fun i j => by rw [lap_mid, ev_ends he]
  have h1 : Dr n (pre ++ a :: post) R = det n (setR (rt R (pre ++ post)) v fun j => 1 * lap (pre ++ post) v j + 1 * unit v j) := by
    unfold Dr
    rw [← det_addrow (A := rt R (pre ++ a :: post)) hv hu (Ne.symm hfk) 1]
    refine det_congr fun i j hi hj => ?_
    by_cases ek : i = v
    · subst ek
      rw [setR_at, setR_at]
      unfold rt
      rw [if_neg hk, if_pos hR, hlap, unit_self, unit_ne (Ne.symm hfk)]; omega
    · rw [setR_ne ek, setR_ne ek]
      unfold rt
      by_cases q : R i = true
      · rw [if_pos q, if_pos q]
      · have hif : i ≠ u := fun e2 => q (by rw [e2]; exact hR)
        rw [if_neg q, if_neg q, hlap, unit_ne hif, unit_ne ek]; simp
  rw [h1, det_lin 1 1 (lap (pre ++ post) v) (unit v) hv]
  have h2 : setR (rt R (pre ++ post)) v (lap (pre ++ post) v) = rt R (pre ++ post) := by
    rw [show lap (pre ++ post) v = rt R (pre ++ post) v from funext fun j => by unfold rt; rw [if_neg hk], setR_self]
  have h3 : det n (setR (rt R (pre ++ post)) v (unit v)) = Dr n (pre ++ post) (orR R v) := det_congr fun i j _ _ => by
    by_cases ek : i = v
    · subst ek; rw [setR_at]; unfold rt; rw [if_pos (orR_iff.2 (.inr rfl))]
    · rw [setR_ne ek]
      unfold rt
      by_cases q : R i = true
      · rw [if_pos q, if_pos (orR_iff.2 (.inl q))]
      · rw [if_neg q, if_neg (fun q2 => by rcases orR_iff.1 q2 with c | c; exact q c; exact ek c)]
  rw [h2, h3]
  unfold Dr; omega
theorem lap_off {P : Nat → Bool} {i j : Nat} : ∀ {es : List Arc}, (∀ a ∈ es, ∃ x y : Nat, a.src = x ∧ a.dst = y ∧ (P x = true ↔ P y = true)) → P i ≠ P j → lap es i j = 0
  | [], _, _ => rfl
  | a :: r, h, hne => by
    obtain ⟨x, y, e1, e2, hP⟩ := h a List.mem_cons_self
    rw [lap, lap_off (fun b hb => h b (List.mem_cons_of_mem _ hb)) hne]
    have : ev a i * ev a j = 0 := by
      have hv : ∀ k, P k ≠ P x → ev a k = 0 := fun k hk => ev_none (fun e => hk (by rw [show k = x by omega])) (fun e => hk (by
        have : k = y := by omega
        rw [this]
        cases hx : P x <;> cases hy : P y <;> simp_all))
      by_cases q : P i = P x
      · rw [hv j (fun q2 => hne (q.trans q2.symm))]; omega
      · rw [hv i q]; omega
    omega
def Reach (n : Nat) (es : List Arc) (R : Nat → Bool) : Prop := ∀ v : Nat, v < n → ∃ r : Nat, r < n ∧ R r = true ∧ Lk es v r
theorem dr_pos {n : Nat} : ∀ (m : Nat) {es : List Arc} {R : Nat → Bool}, es.length = m → InN n es → 0 ≤ Dr n es R ∧ (0 < Dr n es R ↔ Reach n es R)
  | m, es, R, hm, hA => by
    by_cases hex : ∃ a ∈ es, ∃ u v : Nat, u < n ∧ v < n ∧ ends a u v ∧ R u = true ∧ ¬ R v = true
    · obtain ⟨a, ha, u, v, hu, hv, he, hR, hk⟩ := hex
      obtain ⟨pre, post, rfl⟩ := List.append_of_mem ha
      obtain ⟨m', rfl⟩ : ∃ m', m = m' + 1 := ⟨m - 1, by rw [List.length_append, List.length_cons] at hm; omega⟩
      have hl : (pre ++ post).length = m' := by rw [List.length_append, List.length_cons] at hm; rw [List.length_append]; omega
      have hA' : InN n (pre ++ post) := fun b hb => hA b (mid_more pre post a b hb)
      obtain ⟨p1, p2⟩ := dr_pos m' (R := R) hl hA'
      obtain ⟨p3, p4⟩ := dr_pos m' (R := orR R v) hl hA'
      rw [Dr_arc hu hv he hR hk]
      refine ⟨by omega, ⟨fun h w hw => ?_, fun h => ?_⟩⟩
      · have hmono : ∀ {x y : Int}, Lk (pre ++ post) x y → Lk (pre ++ a :: post) x y := fun g => g.mono (mid_more pre post a)
        rcases Int.lt_or_le 0 (Dr n (pre ++ post) R) with q | q
        · obtain ⟨r, r1, r2, r3⟩ := p2.1 q w hw
          exact ⟨r, r1, r2, hmono r3⟩
        · obtain ⟨r, r1, r2, r3⟩ := p4.1 (by omega) w hw
          rcases orR_iff.1 r2 with c | c
          · exact ⟨r, r1, c, hmono r3⟩
          · subst c
            have hs : Lk (pre ++ a :: post) a.src a.dst := .arc (by simp)
            refine ⟨u, hu, hR, (hmono r3).trans ?_⟩
            rcases he with ⟨e1, e2⟩ | ⟨e1, e2⟩
            · rw [← e1, ← e2]; exact hs.symm
            · rw [← e1, ← e2]; exact hs
      · have : Reach n (pre ++ post) (orR R v) := fun w hw => by
          obtain ⟨r, r1, r2, r3⟩ := h w hw
          have hc : Lk (a :: (pre ++ post)) (w : Int) (r : Int) := r3.mono fun b hb => by
            rw [List.mem_append, List.mem_cons] at hb
            rw [List.mem_cons, List.mem_append]
            rcases hb with q | q | q
            · exact .inr (.inl q)
            · exact .inl q
            · exact .inr (.inr q)
          have hv2 : orR R v v = true := orR_iff.2 (.inr rfl)
          have hu2 : orR R v u = true := orR_iff.2 (.inl hR)
          rcases lk_cons hc with q | ⟨q1, q2⟩ | ⟨q1, q2⟩
          · exact ⟨r, r1, orR_iff.2 (.inl r2), q⟩
          · rcases he with ⟨e1, e2⟩ | ⟨e1, e2⟩
            · exact ⟨u, hu, hu2, by rw [← e1]; exact q1⟩
            · exact ⟨v, hv, hv2, by rw [← e1]; exact q1⟩
          · rcases he with ⟨e1, e2⟩ | ⟨e1, e2⟩
            · exact ⟨v, hv, hv2, by rw [← e2]; exact q1⟩
            · exact ⟨u, hu, hu2, by rw [← e2]; exact q1⟩
        have := p4.2 this
        omega
    · have hP : ∀ a ∈ es, ∃ x y : Nat, a.src = x ∧ a.dst = y ∧ (R x = true ↔ R y = true) := fun a ha => by
        obtain ⟨a1, a2, a3, a4⟩ := hA a ha
        refine ⟨a.src.toNat, a.dst.toNat, by omega, by omega, ⟨fun q => Classical.byContradiction fun q2 => hex ⟨a, ha, a.src.toNat, a.dst.toNat, by omega, by omega, .inl ⟨by omega, by omega⟩, q, q2⟩,
          fun q => Classical.byContradiction fun q2 => hex ⟨a, ha, a.dst.toNat, a.src.toNat, by omega, by omega, .inr ⟨by omega, by omega⟩, q, q2⟩⟩⟩
      by_cases hall : ∀ v, v < n → R v = true
      · rw [Dr_all hall]
        exact ⟨by omega, fun _ v hv => ⟨v, hv, hall v hv, .refl _⟩, fun _ => by omega⟩
      · obtain ⟨c, hc⟩ := Classical.not_forall.1 hall
        obtain ⟨hcn, hcR⟩ : c < n ∧ ¬ R c = true := ⟨Classical.byContradiction fun q => hc fun q2 => absurd q2 q, fun q => hc fun _ => q⟩
        have hz : Dr n es R = 0 := by
          unfold Dr
          rw [← det_T]
          have h1 := det_comb2 (n := n) (A := fun i j => rt R es j i) (r := c) hcn (fun t => if R t = true ∨ t = c then 0 else 1) (by rw [if_pos (.inr rfl)]) (k := n) (Nat.le_refl _)
          rw [← h1]
          refine det_zero_row hcn fun j hj => ?_
          rw [setR_at]
          show rt R es j c + sumTo n (fun t => (if R t = true ∨ t = c then 0 else 1) * rt R es j t) = 0
          have e1 : rt R es j c + sumTo n (fun t => (if R t = true ∨ t = c then 0 else 1) * rt R es j t) = sumTo n fun t => (if R t = true then 0 else 1) * rt R es j t := by
            have e2 : sumTo n (fun t => (if R t = true then 0 else 1) * rt R es j t) = sumTo n fun t => (if t = c then rt R es j c else 0) + (if R t = true ∨ t = c then 0 else 1) * rt R es j t := sum_congr fun t _ => by
              by_cases q : t = c
              · subst q; rw [if_neg hcR, if_pos rfl, if_pos (.inr rfl)]; omega
              · by_cases q2 : R t = true
                · rw [if_pos q2, if_neg q, if_pos (.inl q2)]; omega
                · rw [if_neg q2, if_neg q, if_neg (by simp [q, q2])]; omega
            rw [e2, sum_add, sum_one (c := c) hcn (fun j _ hj => if_neg hj), if_pos rfl]
          rw [e1]
          by_cases q : R j = true
          · refine sum_zero fun t _ => ?_
            by_cases q2 : R t = true
            · rw [if_pos q2]; omega
            · unfold rt
              rw [if_pos q, unit_ne (fun e => q2 (by rw [e]; exact q))]; omega
          · have e3 : sumTo n (fun t => (if R t = true then 0 else 1) * rt R es j t) = sumTo n fun t => lap es j t := sum_congr fun t _ => by
              unfold rt
              rw [if_neg q]
              by_cases q2 : R t = true
              · rw [if_pos q2, lap_off (P := R) hP (by rw [q2]; exact q)]; omega
              · rw [if_neg q2]; omega
            rw [e3]; exact lap_row hA j
        rw [hz]
        refine ⟨Int.le_refl _, fun h => absurd h (by decide), fun h => ?_⟩
        obtain ⟨r, r1, r2, r3⟩ := h c hcn
        have hinv : ∀ {x y : Int}, Lk es x y → (R x.toNat = true ↔ R y.toNat = true) := fun g => by
          induction g with
          | refl u => exact Iff.rfl
          | symm _ ih => exact ih.symm
          | trans _ _ g1 g2 => exact g1.trans g2
          | arc hb =>
            obtain ⟨x, y, e1, e2, e3⟩ := hP _ hb
            rw [e1, e2]; exact e3
        have := (hinv r3).2 r2
        exact absurd this hcR
def Conn (n : Int) (es : List Arc) : Prop := ∀ u v : Nat, (u : Int) < n → (v : Int) < n → Lk es u v
theorem cnt_conn {n : Int} {es : List Arc} (h1 : 1 ≤ n) (hA : InR n es) : 0 < cntVal n es ↔ Conn n es := by
  obtain ⟨m, hm⟩ : ∃ m : Nat, n.toNat = m + 1 := ⟨n.toNat - 1, by omega⟩
  rw [cnt_Dr (m := m) (by omega), (dr_pos _ (R := isR m) rfl (fun a ha => by have := hA a ha; omega)).2]
  constructor
  · intro h u v hu hv
    obtain ⟨r, _, r2, r3⟩ := h u (by omega)
    obtain ⟨s, _, s2, s3⟩ := h v (by omega)
    have e1 := of_decide_eq_true (show decide (r = m) = true from r2)
    have e2 := of_decide_eq_true (show decide (s = m) = true from s2)
    subst e1; subst e2
    exact r3.trans s3.symm
  · intro h v hv
    exact ⟨m, by omega, decide_eq_true rfl, h v m (by omega) (by omega)⟩
theorem mrg_lk2 {n : Int} {a : Arc} {r : List Arc} {x y : Int} (h : Lk (a :: r) x y) (hne : mrgI n a a.src = mrgI n a a.dst) : Lk (r.map (mrg n a)) (mrgI n a x) (mrgI n a y) := by
  induction h with
  | refl u => exact .refl _
  | symm _ ih => exact ih.symm
  | trans _ _ g1 g2 => exact g1.trans g2
  | @arc b hb =>
    rcases List.mem_cons.1 hb with rfl | hb
    · rw [hne]; exact .refl _
    · exact .arc (a := mrg n a b) (List.mem_map.2 ⟨b, hb, rfl⟩)
theorem mrg_ends {n : Int} {a : Arc} (h1 : a.src < n) (h3 : a.dst < n) (hne : a.src ≠ a.dst) : mrgI n a a.src = mrgI n a a.dst := by
  unfold mrgI
  rcases Int.lt_or_lt_of_ne hne with q | q
  · rw [if_neg (by omega), if_neg (by omega), if_pos (by omega)]; omega
  · rw [if_pos (by omega), if_neg (by omega), if_neg (by omega)]; omega
theorem mrg_onto {n : Int} {a : Arc} (h0 : 0 ≤ a.src) (h1 : a.src < n) (h2 : 0 ≤ a.dst) (h3 : a.dst < n) (hne : a.src ≠ a.dst) {z : Int} (hz0 : 0 ≤ z) (hz1 : z < n - 1) : ∃ x, 0 ≤ x ∧ x < n ∧ mrgI n a x = z := by
  by_cases e : z = max a.src a.dst
  · refine ⟨n - 1, by omega, by omega, ?_⟩
    unfold mrgI
    rw [if_neg (by omega), if_pos rfl, e]
  · refine ⟨z, hz0, by omega, ?_⟩
    unfold mrgI
    rw [if_neg e, if_neg (by omega)]
theorem conn_len : ∀ (m : Nat) {n : Int} {es : List Arc}, es.length = m → 1 ≤ n → InR n es → Conn n es → n ≤ (m : Int) + 1
  | 0, n, es, hm, h1, _, h => by
    obtain rfl : es = [] := List.eq_nil_of_length_eq_zero hm
    rcases Int.lt_or_le 1 n with q | q
    · have := lk_nil (h 0 1 (by omega) (by omega))
      omega
    · omega
  | m + 1, n, [], hm, _, _, _ => by cases hm
  | m + 1, n, a :: r, hm, h1, hA, h => by
    obtain ⟨a1, a2, a3, a4⟩ := hA a List.mem_cons_self
    have hA' : InR n r := fun c hc => hA c (List.mem_cons_of_mem _ hc)
    have hl : r.length = m := by simpa using hm
    by_cases hne : a.src = a.dst
    · have hr : Conn n r := fun u v hu hv => by
        rcases lk_cons (h u v hu hv) with q | ⟨q1, q2⟩ | ⟨q1, q2⟩
        · exact q
        · rw [hne] at q1; exact q1.trans q2
        · rw [← hne] at q1; exact q1.trans q2
      have := conn_len m hl h1 hA' hr
      omega
    · have hr : Conn (n - 1) (r.map (mrg n a)) := fun u v hu hv => by
        obtain ⟨x, x1, x2, x3⟩ := mrg_onto a1 a2 a3 a4 hne (z := (u : Int)) (by omega) hu
        obtain ⟨y, y1, y2, y3⟩ := mrg_onto a1 a2 a3 a4 hne (z := (v : Int)) (by omega) hv
        have := mrg_lk2 (n := n) (h x.toNat y.toNat (by omega) (by omega)) (mrg_ends a2 a4 hne)
        rwa [Int.toNat_of_nonneg x1, Int.toNat_of_nonneg y1, x3, y3] at this
      have := conn_len m (es := r.map (mrg n a)) (by rw [List.length_map]; exact hl) (by omega) (mrg_inR a1 a2 a3 a4 hne hA') hr
      omega
theorem ac_conn : ∀ (m : Nat) {n : Int} {es : List Arc}, es.length = m → n = (m : Int) + 1 → InR n es → Ac es → Conn n es
  | 0, n, es, hm, h1, _, _ => fun u v hu hv => by
    have : u = v := by omega
    rw [this]; exact .refl _
  | m + 1, n, [], hm, _, _, _ => by cases hm
  | m + 1, n, a :: r, hm, h1, hA, h => by
    obtain ⟨a1, a2, a3, a4⟩ := hA a List.mem_cons_self
    have hA' : InR n r := fun c hc => hA c (List.mem_cons_of_mem _ hc)
    have hl : r.length = m := by simpa using hm
    have hne : a.src ≠ a.dst := fun q => h.1 (by rw [q]; exact .refl _)
    have ih := ac_conn m (n := n - 1) (es := r.map (mrg n a)) (by rw [List.length_map]; exact hl) (by omega) (mrg_inR a1 a2 a3 a4 hne hA') (Ac.merge a1 a2 a3 a4 hne hA' h.2 h.1)
    intro u v hu hv
    obtain ⟨e1, e2⟩ := mrg_in a1 a2 a3 a4 hne (x := (u : Int)) (by omega) hu
    obtain ⟨e3, e4⟩ := mrg_in a1 a2 a3 a4 hne (x := (v : Int)) (by omega) hv
    have h5 := ih (mrgI n a u).toNat (mrgI n a v).toNat (by omega) (by omega)
    rw [Int.toNat_of_nonneg e1, Int.toNat_of_nonneg e3] at h5
    obtain ⟨y, y1, y2, y3, y4⟩ := (mrg_lk a1 a2 a3 a4 hne hA' h5).1 u (by omega) hu rfl
    exact y4.trans (mrg_lk0 a1 a2 a3 a4 hne y2 hv y3)
theorem kr_forest {n : Int} {es : List Arc} {o : List Int} (hO : OrdK es o) (hG : GOk n es (-10000)) : ∀ q, q ≤ o.length → (∀ u v, Lk (arcsOf es (o.take q)) u v → Lk (arcsOf es (takL n es (o.take q))) u v) ∧ Ac (arcsOf es (takL n es (o.take q))).reverse
  | 0, _ => ⟨fun u v h => h, trivial⟩
  | q + 1, hq => by
    obtain ⟨ih1, ih2⟩ := kr_forest hO hG q (by omega)
    have hk := hO.at_ (q := q) (by omega)
    have hsub : ∀ b ∈ arcsOf es (takL n es (o.take q)), b ∈ arcsOf es (o.take q) := fun b hb => by
      unfold arcsOf takL at hb
      obtain ⟨k, k1, rfl⟩ := List.mem_map.1 hb
      exact List.mem_map.2 ⟨k, (List.mem_filter.1 k1).1, rfl⟩
    have ht := tak_lk hG (k := (o.getD q 0).toNat) (by omega)
    have hL : Lk (arcsOf es (o.take q)) (ar es (o.getD q 0).toNat).src (ar es (o.getD q 0).toNat).dst ↔ Lk (lowTo es (o.getD q 0).toNat es.length) (ar es (o.getD q 0).toNat).src (ar es (o.getD q 0).toNat).dst :=
      ⟨fun x => x.mono fun a ha => (ahead_mem hO (by omega)).1 ha, fun x => x.mono fun a ha => (ahead_mem hO (by omega)).2 ha⟩
    rw [arcs_snoc (by omega), takL_snoc (by omega)]
    by_cases e : tak n es (o.getD q 0).toNat = true
    · rw [if_pos e]
      have e2 : arcsOf es (takL n es (o.take q) ++ [o.getD q 0]) = arcsOf es (takL n es (o.take q)) ++ [ar es (o.getD q 0).toNat] := by unfold arcsOf; rw [List.map_append]; rfl
      rw [e2]
      refine ⟨fun u v h => ?_, ?_⟩
      · rcases lk_snoc.1 h with c | ⟨c1, c2⟩ | ⟨c1, c2⟩
        · exact lk_snoc.2 (.inl (ih1 _ _ c))
        · exact lk_snoc.2 (.inr (.inl ⟨ih1 _ _ c1, ih1 _ _ c2⟩))
        · exact lk_snoc.2 (.inr (.inr ⟨ih1 _ _ c1, ih1 _ _ c2⟩))
      · rw [List.reverse_append]
        refine ⟨fun c => ?_, ih2⟩
        refine ht.1 e (hL.1 (c.mono fun b hb => hsub b ?_))
        exact List.mem_reverse.1 hb
    · rw [if_neg e, List.append_nil]
      refine ⟨fun u v h => ?_, ih2⟩
      have hl2 : Lk (arcsOf es (o.take q)) (ar es (o.getD q 0).toNat).src (ar es (o.getD q 0).toNat).dst := hL.2 (Classical.byContradiction fun c => e (ht.2 c))
      have hl3 := ih1 _ _ hl2
      rcases lk_snoc.1 h with c | ⟨c1, c2⟩ | ⟨c1, c2⟩
      · exact ih1 _ _ c
      · exact ((ih1 _ _ c1).trans hl3).trans (ih1 _ _ c2)
      · exact ((ih1 _ _ c1).trans hl3.symm).trans (ih1 _ _ c2)
theorem least_conn {n : Int} {es : List Arc} (hG : GOk n es (-10000)) : (((leastTo n es es.length).length : Nat) : Int) = n - 1 ↔ Conn n es := by
  have h1 := hG.n1
  have hO := ordO_ok es
  obtain ⟨k1, k2⟩ := kr_forest hO hG (ordO es).length (Nat.le_refl _)
  rw [List.take_length] at k1 k2
  have hlen : (takL n es (ordO es)).length = (leastTo n es es.length).length := by
    rw [← (takL_ids n es es.length).1]
    exact (hO.perm.filter _).length_eq
  have hT : ∀ b ∈ arcsOf es (takL n es (ordO es)), b ∈ es := fun b hb => by
    unfold arcsOf takL at hb
    obtain ⟨k, q1, rfl⟩ := List.mem_map.1 hb
    obtain ⟨j, q2, q3⟩ := ids_mem.1 (hO.perm.mem_iff.1 (List.mem_filter.1 q1).1)
    rw [q3, Int.toNat_natCast]
    exact getD_mem q2
  have hA : InR n (arcsOf es (takL n es (ordO es))).reverse := fun b hb => hG.inR b (hT b (List.mem_reverse.1 hb))
  have hl2 : (arcsOf es (takL n es (ordO es))).reverse.length = (leastTo n es es.length).length := by rw [List.length_reverse]; unfold arcsOf; rw [List.length_map, hlen]
  have hall : ∀ b ∈ es, b ∈ arcsOf es (ordO es) := fun b hb => by
    obtain ⟨j, hj, rfl⟩ := List.getElem_of_mem hb
    refine List.mem_map.2 ⟨(j : Int), hO.perm.mem_iff.2 (ids_mem.2 ⟨j, hj, rfl⟩), ?_⟩
    show es.getD (j : Int).toNat default = _
    rw [Int.toNat_natCast, getD_lt _ _ j hj]
  constructor
  · intro h u v hu hv
    have := ac_conn _ hl2 (by omega) hA k2 u v hu hv
    exact this.mono fun b hb => hT b (List.mem_reverse.1 hb)
  · intro h
    have hc : Conn n (arcsOf es (takL n es (ordO es))).reverse := fun u v hu hv =>
      (k1 _ _ ((h u v hu hv).mono hall)).mono fun b hb => List.mem_reverse.2 hb
    have g1 := conn_len _ hl2 h1 hA hc
    have g2 := Ac.len _ hl2 h1 hA k2
    omega
def posA (es : List Arc) : List Arc := es.filter fun a => decide (0 < a.cap)
theorem pos_mem {es : List Arc} {a : Arc} : a ∈ posA es ↔ a ∈ es ∧ 0 < a.cap := by unfold posA; rw [List.mem_filter, decide_eq_true_eq]
theorem cut_zero {p : Nat → Bool} : ∀ {es : List Arc}, (∀ a ∈ es, p a.src.toNat = p a.dst.toNat ∨ a.cap = 0) → cutP p es = 0
  | [], _ => rfl
  | a :: r, h => by
    have h1 := h a List.mem_cons_self
    simp only [cutP, cut_zero (fun b hb => h b (List.mem_cons_of_mem _ hb))]
    split
    · rfl
    · rename_i c
      rw [h1.resolve_left c]; rfl
theorem cut_nn {p : Nat → Bool} : ∀ {es : List Arc}, (∀ a ∈ es, 0 ≤ a.cap) → 0 ≤ cutP p es
  | [], _ => Int.le_refl _
  | a :: r, h => by
    have h1 := h a List.mem_cons_self
    have := cut_nn (p := p) (es := r) fun b hb => h b (List.mem_cons_of_mem _ hb)
    simp only [cutP]
    split <;> omega
theorem cut_ge {p : Nat → Bool} {a : Arc} : ∀ {es : List Arc}, (∀ a ∈ es, 0 ≤ a.cap) → a ∈ es → p a.src.toNat ≠ p a.dst.toNat → a.cap ≤ cutP p es
  | [], _, ha, _ => by cases ha
  | b :: r, h, ha, hne => by
    have h1 := h b List.mem_cons_self
    have hr : ∀ c ∈ r, 0 ≤ c.cap := fun c hc => h c (List.mem_cons_of_mem _ hc)
    simp only [cutP]
    rcases List.mem_cons.1 ha with rfl | ha
    · have := cut_nn (p := p) hr
      rw [if_neg hne]; omega
    · have := cut_ge hr ha hne
      split <;> omega
theorem part_conn {n : Int} {es : List Arc} {side c : Int} (hG : GOk n es 0) (hS : Sd n es side c) (hmin : ∀ p : Nat → Bool, (∃ u, u < n.toNat ∧ p u = true) → (∃ u, u < n.toNat ∧ p u = false) → c ≤ cutP p es) : 0 < c ↔ Conn n (posA es) := by
  have hnn : ∀ a ∈ es, 0 ≤ a.cap := fun a ha => (hG.arc a ha).2.2.2.2.1
  constructor
  · intro hc u v hu hv
    refine Classical.byContradiction fun hno => ?_
    have hx := hmin (fun x => @decide (Lk (posA es) u x) (Classical.propDecidable _)) ⟨u, by omega, by simp [Lk.refl]⟩ ⟨v, by omega, by simpa using hno⟩
    rw [cut_zero] at hx
    · omega
    · intro a ha
      obtain ⟨a1, a2, a3, a4, a5, _⟩ := hG.arc a ha
      rcases Int.lt_or_le 0 a.cap with q | q
      · left
        have hs : Lk (posA es) a.src a.dst := .arc (pos_mem.2 ⟨ha, q⟩)
        refine decide_eq_decide.2 ⟨fun g => ?_, fun g => ?_⟩
        · rw [Int.toNat_of_nonneg a1] at g
          rw [Int.toNat_of_nonneg a3]
          exact g.trans hs
        · rw [Int.toNat_of_nonneg a3] at g
          rw [Int.toNat_of_nonneg a1]
          exact g.trans hs.symm
      · right; omega
  · intro h
    obtain ⟨u, hu, hu2⟩ := hS.yes
    obtain ⟨v, hv, hv2⟩ := hS.no
    have hl := h u v (by omega) (by omega)
    have hex : ∃ a ∈ posA es, has side a.src.toNat ≠ has side a.dst.toNat := by
      refine Classical.byContradiction fun hno => ?_
      have hinv : ∀ {x y : Int}, Lk (posA es) x y → has side x.toNat = has side y.toNat := fun g => by
        induction g with
        | refl u => rfl
        | symm _ ih => exact ih.symm
        | trans _ _ g1 g2 => exact g1.trans g2
        | arc hb => exact Classical.byContradiction fun q => hno ⟨_, hb, q⟩
      have := hinv hl
      rw [Int.toNat_natCast, Int.toNat_natCast, hu2, hv2] at this
      cases this
    obtain ⟨a, ha, hne⟩ := hex
    obtain ⟨h1, h2⟩ := pos_mem.1 ha
    have := cut_ge hnn h1 hne
    rw [hS.cut] at this
    omega
theorem part_tree {n : Int} {es : List Arc} {up w : List Int} {side c : Int} (hE : pairErr n es = 0) (hT : PT n.toNat es (lamOf n es) up w n.toNat) (hS : Sd n es side c) (h0 : has side 0 = false)
    (hmin : ∀ p : Nat → Bool, (∃ u, u < n.toNat ∧ p u = true) → (∃ u, u < n.toNat ∧ p u = false) → c ≤ cutP p es) : (∀ k, 1 ≤ k → k < n.toNat → c ≤ w.getD k 0) ∧ ∃ k, 1 ≤ k ∧ k < n.toNat ∧ w.getD k 0 = c := by
  have hL := lam_of hE
  have hle : ∀ k, 1 ≤ k → k < n.toNat → c ≤ w.getD k 0 := fun k h1 h2 => by
    obtain ⟨b1, b2, _⟩ := hT.below k h1 h2
    obtain ⟨p, p1, p2, p3, _⟩ := hT.sep k (up.getD k 0).toNat h2 (by omega) (by omega)
    rw [hT.wt k h1 h2, ← p3]
    exact hmin p ⟨k, h2, p1⟩ ⟨_, by omega, p2⟩
  refine ⟨hle, ?_⟩
  have key : ∀ u, u < n.toNat → has side u = true → ∃ k, 1 ≤ k ∧ k < n.toNat ∧ has side k = true ∧ has side (up.getD k 0).toNat = false := by
    intro u
    induction u using Nat.strongRecOn with
    | _ u ih =>
      intro hu hs
      have h1 : 1 ≤ u := by
        rcases Nat.eq_zero_or_pos u with q | q
        · rw [q, h0] at hs; cases hs
        · exact q
      obtain ⟨b1, b2, _⟩ := hT.below u h1 hu
      cases e : has side (up.getD u 0).toNat
      · exact ⟨u, h1, hu, hs, e⟩
      · exact ih (up.getD u 0).toNat (by omega) (by omega) e
  obtain ⟨u, hu, hs⟩ := hS.yes
  obtain ⟨k, k1, k2, k3, k4⟩ := key u hu hs
  refine ⟨k, k1, k2, ?_⟩
  obtain ⟨b1, b2, _⟩ := hT.below k k1 k2
  have g1 := hL.le k (up.getD k 0).toNat (has side) k2 (by omega) k3 k4
  rw [hS.cut] at g1
  have g2 := hle k k1 k2
  rw [hT.wt k k1 k2] at g2 ⊢
  omega
theorem foldl_min_is : ∀ {l : List Int} {m : Int}, (l.foldl min m = m ∨ l.foldl min m ∈ l) ∧ l.foldl min m ≤ m ∧ ∀ x ∈ l, l.foldl min m ≤ x
  | [], m => ⟨.inl rfl, Int.le_refl _, fun _ h => by cases h⟩
  | y :: r, m => by
    obtain ⟨h1, h2, h3⟩ := foldl_min_is (l := r) (m := min m y)
    rw [List.foldl_cons]
    refine ⟨?_, by omega, fun x hx => ?_⟩
    · rcases h1 with q | q
      · rcases Int.le_total m y with c | c
        · left; omega
        · right; rw [q, Int.min_eq_right c]; exact List.mem_cons_self
      · exact .inr (List.mem_cons_of_mem _ q)
    · rcases List.mem_cons.1 hx with rfl | hx
      · omega
      · exact h3 x hx
theorem min_drop {n : Int} {c : Int} {w : List Int} (h1 : ∀ k, 1 ≤ k → k < n.toNat → c ≤ w.getD k 0) (h2 : ∃ k, 1 ≤ k ∧ k < n.toNat ∧ w.getD k 0 = c) (hl : w.length = n.toNat) : w.drop 1 ≠ [] ∧ minOf (w.drop 1) = c := by
  obtain ⟨k, k1, k2, k3⟩ := h2
  match w, hl with
  | [], hl => simp at hl; omega
  | [x], hl => simp at hl; omega
  | x :: y :: r, hl =>
    refine ⟨by simp, ?_⟩
    show r.foldl min y = c
    have hg : ∀ j, j < (y :: r).length → c ≤ (y :: r).getD j 0 := fun j hj => by
      have := h1 (j + 1) (by omega) (by rw [← hl]; simp at hj ⊢; omega)
      simpa using this
    obtain ⟨g1, g2, g3⟩ := foldl_min_is (l := r) (m := y)
    have hge : ∀ z ∈ y :: r, c ≤ z := fun z hz => by
      obtain ⟨j, hj, rfl⟩ := List.getElem_of_mem hz
      have := hg j hj
      rwa [getD_lt _ 0 j hj] at this
    have hle : r.foldl min y ≤ c := by
      rw [← k3]
      have e : (x :: y :: r).getD k 0 = (y :: r).getD (k - 1) 0 := by
        obtain ⟨j, rfl⟩ : ∃ j, k = j + 1 := ⟨k - 1, by omega⟩
        simp
      have hk : k - 1 < (y :: r).length := by rw [← hl] at k2; simp at k2 ⊢; omega
      rw [e, getD_lt _ 0 (k - 1) hk]
      rcases List.mem_cons.1 (List.getElem_mem hk) with q | q
      · rw [q]; exact g2
      · exact g3 _ q
    have hc : c ≤ r.foldl min y := by
      rcases g1 with q | q
      · rw [q]; exact hge y List.mem_cons_self
      · exact hge _ (List.mem_cons_of_mem _ q)
    omega
theorem pos_take {es : List Arc} {i : Nat} (h : i < es.length) : posA (es.take (i + 1)) = if 0 < (es.getD i default).cap then posA (es.take i) ++ [es.getD i default] else posA (es.take i) := by
  rw [take_getD es default i h]
  unfold posA
  rw [List.filter_append, List.filter_cons]
  by_cases q : 0 < (es.getD i default).cap
  · rw [if_pos q, if_pos (decide_eq_true q)]; rfl
  · rw [if_neg q, if_neg (by simpa using q)]; simp
theorem pos_ok {n : Int} {es : List Arc} (hG : GOk n es 0) : GOk n (posA es) (-10000) :=
  ⟨hG.n1, hG.n2, Nat.le_trans (List.length_filter_le _ _) hG.len, fun a ha => by
    obtain ⟨a1, a2, a3, a4, a5, a6⟩ := hG.arc a (pos_mem.1 ha).1
    exact ⟨a1, a2, a3, a4, by omega, a6⟩⟩
end Go.Ab
