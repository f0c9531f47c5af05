/- Of forests: how many colourings, two sides, how far. -/
import Derived.Test.YtakfbagokponeaaPlRoots
namespace Go.Ab
def mrgI (n : Int) (a : Arc) (k : Int) : Int := if k = max a.src a.dst then min a.src a.dst else if k = n - 1 then max a.src a.dst else k
def mrg (n : Int) (a b : Arc) : Arc := ⟨mrgI n a b.src, mrgI n a b.dst, 0⟩
def cnt (q : Int) : Nat → Int → List Arc → Int
  | 0, n, _ => q ^ n.toNat
  | _ + 1, n, [] => q ^ n.toNat
  | k + 1, n, a :: r => if a.src = a.dst then 0 else cnt q k n r - cnt q k (n - 1) (r.map (mrg n a))
theorem pow_bd {q : Int} (h0 : 0 ≤ q) (h1 : q ≤ 20) : ∀ (i : Nat), 0 ≤ q ^ i ∧ q ^ i ≤ 20 ^ i
  | 0 => by simp
  | i + 1 => by
    obtain ⟨a, b⟩ := pow_bd h0 h1 i
    rw [Int.pow_succ, Int.pow_succ]
    exact ⟨Int.mul_nonneg a h0, Int.mul_le_mul b h1 h0 (Int.le_trans a b)⟩
theorem pow8_bd {q : Int} (h0 : 0 ≤ q) (h1 : q ≤ 20) {i : Nat} (hi : i ≤ 8) : 0 ≤ q ^ i ∧ q ^ i ≤ 25600000000 := by
  obtain ⟨a, b⟩ := pow_bd h0 h1 i
  have h2 : ∀ i : Nat, i ≤ 8 → (20 : Int) ^ i ≤ 25600000000 := by decide
  have := h2 i hi
  omega
def two (k : Nat) : Int := 2 ^ k
theorem two_succ (k : Nat) : two (k + 1) = two k * 2 := Int.pow_succ _ _
theorem two_pos (k : Nat) : 1 ≤ two k := by
  induction k with
  | zero => decide
  | succ k ih => rw [two_succ]; omega
theorem two_12 {k : Nat} (h : k ≤ 12) : two k ≤ 4096 := by
  have h2 : ∀ k : Nat, k ≤ 12 → two k ≤ 4096 := by decide
  exact h2 k h
theorem cnt_bd {q : Int} (h0 : 0 ≤ q) (h1 : q ≤ 20) : ∀ (k : Nat) {n : Int} {es : List Arc}, n ≤ 8 → -(two k * 25600000000) ≤ cnt q k n es ∧ cnt q k n es ≤ two k * 25600000000
  | 0, n, es, hn => by
    have := pow8_bd h0 h1 (i := n.toNat) (by omega)
    rw [cnt]
    have e : two 0 = 1 := rfl
    rw [e]; omega
  | k + 1, n, [], hn => by
    have := pow8_bd h0 h1 (i := n.toNat) (by omega)
    have := two_pos (k + 1)
    rw [cnt]
    omega
  | k + 1, n, a :: r, hn => by
    have g1 := cnt_bd h0 h1 k (n := n) (es := r) hn
    have g2 := cnt_bd h0 h1 k (n := n - 1) (es := r.map (mrg n a)) (by omega)
    have := two_pos k
    rw [cnt, two_succ]
    split <;> omega
theorem cnt_i64 {q : Int} (h0 : 0 ≤ q) (h1 : q ≤ 20) {k : Nat} (hk : k ≤ 12) {n : Int} {es : List Arc} (hn : n ≤ 8) : -1000000000000000 ≤ cnt q k n es ∧ cnt q k n es ≤ 1000000000000000 := by
  have := cnt_bd h0 h1 k (n := n) (es := es) hn
  have := two_12 hk
  omega
def colErr (n : Int) (es : List Arc) (q : Int) : Int := if graphErr n es (-10000) ≠ 0 then graphErr n es (-10000) else if 8 < n ∨ 12 < es.length then 2 else if q < 0 ∨ 20 < q then 1 else 0
def Ac : List Arc → Prop
  | [] => True
  | a :: r => ¬ Lk r a.src a.dst ∧ Ac r
theorem mrg_in {n : Int} {a : Arc} (h0 : 0 ≤ a.src) (h1 : a.src < n) (h2 : 0 ≤ a.dst) (h3 : a.dst < n) (hne : a.src ≠ a.dst) {x : Int} (hx0 : 0 ≤ x) (hx1 : x < n) : 0 ≤ mrgI n a x ∧ mrgI n a x < n - 1 := by
  unfold mrgI; split
  · omega
  · split <;> omega
theorem mrg_eq {n : Int} {a : Arc} (h0 : 0 ≤ a.src) (h1 : a.src < n) (h2 : 0 ≤ a.dst) (h3 : a.dst < n) (hne : a.src ≠ a.dst) {x y : Int} (hx : x < n) (hy : y < n) (e : mrgI n a x = mrgI n a y) : x = y ∨ (x = a.src ∧ y = a.dst) ∨ (x = a.dst ∧ y = a.src) := by
  unfold mrgI at e
  split at e <;> split at e <;> (try split at e) <;> (try split at e) <;> omega
theorem mrg_lk0 {n : Int} {a : Arc} (h0 : 0 ≤ a.src) (h1 : a.src < n) (h2 : 0 ≤ a.dst) (h3 : a.dst < n) (hne : a.src ≠ a.dst) {r : List Arc} {x y : Int} (hx : x < n) (hy : y < n) (e : mrgI n a x = mrgI n a y) : Lk (a :: r) x y := by
  rcases mrg_eq h0 h1 h2 h3 hne hx hy e with q | ⟨q1, q2⟩ | ⟨q1, q2⟩
  · rw [q]; exact .refl _
  · rw [q1, q2]; exact .arc List.mem_cons_self
  · rw [q1, q2]; exact .symm (.arc List.mem_cons_self)
theorem mrg_lk {n : Int} {a : Arc} (h0 : 0 ≤ a.src) (h1 : a.src < n) (h2 : 0 ≤ a.dst) (h3 : a.dst < n) (hne : a.src ≠ a.dst) {r : List Arc} (hA : InR n r) {u v : Int} (h : Lk (r.map (mrg n a)) u v) :
    (∀ x, 0 ≤ x → x < n → mrgI n a x = u → ∃ y, 0 ≤ y ∧ y < n ∧ mrgI n a y = v ∧ Lk (a :: r) x y) ∧ (∀ y, 0 ≤ y → y < n → mrgI n a y = v → ∃ x, 0 ≤ x ∧ x < n ∧ mrgI n a x = u ∧ Lk (a :: r) x y) := by
  induction h with
  | refl u => exact ⟨fun x p q e => ⟨x, p, q, e, .refl _⟩, fun x p q e => ⟨x, p, q, e, .refl _⟩⟩
  | symm _ ih =>
    refine ⟨fun x p q e => ?_, fun x p q e => ?_⟩
    · obtain ⟨y, y1, y2, y3, y4⟩ := ih.2 x p q e
      exact ⟨y, y1, y2, y3, y4.symm⟩
    · obtain ⟨y, y1, y2, y3, y4⟩ := ih.1 x p q e
      exact ⟨y, y1, y2, y3, y4.symm⟩
  | trans _ _ g1 g2 =>
    refine ⟨fun x p q e => ?_, fun x p q e => ?_⟩
    · obtain ⟨y, y1, y2, y3, y4⟩ := g1.1 x p q e
      obtain ⟨z, z1, z2, z3, z4⟩ := g2.1 y y1 y2 y3
      exact ⟨z, z1, z2, z3, y4.trans z4⟩
    · obtain ⟨y, y1, y2, y3, y4⟩ := g2.2 x p q e
      obtain ⟨z, z1, z2, z3, z4⟩ := g1.2 y y1 y2 y3
      exact ⟨z, z1, z2, z3, z4.trans y4⟩
  | arc hb0 =>
    obtain ⟨b, hb, rfl⟩ := List.mem_map.1 hb0
    obtain ⟨b1, b2, b3, b4⟩ := hA b hb
    have hs : Lk (a :: r) b.src b.dst := .arc (List.mem_cons_of_mem _ hb)
    exact ⟨fun x p q e => ⟨b.dst, b3, b4, rfl, (mrg_lk0 h0 h1 h2 h3 hne q b2 e).trans hs⟩, fun x p q e => ⟨b.src, b1, b2, rfl, hs.trans (mrg_lk0 h0 h1 h2 h3 hne b4 q e.symm)⟩⟩
theorem lk_cons {A : List Arc} {a : Arc} {u v : Int} (h : Lk (a :: A) u v) : Lk A u v ∨ (Lk A u a.src ∧ Lk A a.dst v) ∨ (Lk A u a.dst ∧ Lk A a.src v) :=
  lk_snoc.1 (h.mono fun b hb => by rw [List.mem_append, List.mem_singleton]; exact (List.mem_cons.1 hb).symm)
theorem Ac.merge {n : Int} {a : Arc} (h0 : 0 ≤ a.src) (h1 : a.src < n) (h2 : 0 ≤ a.dst) (h3 : a.dst < n) (hne : a.src ≠ a.dst) : ∀ {r : List Arc}, InR n r → Ac r → ¬ Lk r a.src a.dst → Ac (r.map (mrg n a))
  | [], _, _, _ => trivial
  | b :: r, hA, h, hn => by
    obtain ⟨b1, b2, b3, b4⟩ := hA b List.mem_cons_self
    have hA' : InR n r := fun c hc => hA c (List.mem_cons_of_mem _ hc)
    have hn' : ¬ Lk r a.src a.dst := fun q => hn (q.mono fun c hc => List.mem_cons_of_mem _ hc)
    refine ⟨fun q => ?_, Ac.merge h0 h1 h2 h3 hne hA' h.2 hn'⟩
    obtain ⟨y, y1, y2, y3, y4⟩ := (mrg_lk h0 h1 h2 h3 hne hA' q).1 b.src b1 b2 rfl
    have q2 := y4.trans (mrg_lk0 (r := r) h0 h1 h2 h3 hne y2 b4 y3)
    have hm : ∀ {u v : Int}, Lk r u v → Lk (b :: r) u v := fun g => g.mono fun c hc => List.mem_cons_of_mem _ hc
    have hb : Lk (b :: r) b.src b.dst := .arc List.mem_cons_self
    rcases lk_cons q2 with c | ⟨c1, c2⟩ | ⟨c1, c2⟩
    · exact h.1 c
    · exact hn (((hm c1).symm.trans hb).trans (hm c2).symm)
    · exact hn (((hm c2).trans hb.symm).trans (hm c1))
theorem mrg_inR {n : Int} {a : Arc} (h0 : 0 ≤ a.src) (h1 : a.src < n) (h2 : 0 ≤ a.dst) (h3 : a.dst < n) (hne : a.src ≠ a.dst) {r : List Arc} (hA : InR n r) : InR (n - 1) (r.map (mrg n a)) := fun b hb => by
  obtain ⟨c, hc, rfl⟩ := List.mem_map.1 hb
  obtain ⟨c1, c2, c3, c4⟩ := hA c hc
  have e1 := mrg_in h0 h1 h2 h3 hne c1 c2
  have e2 := mrg_in h0 h1 h2 h3 hne c3 c4
  exact ⟨e1.1, e1.2, e2.1, e2.2⟩
theorem Ac.len : ∀ (m : Nat) {n : Int} {es : List Arc}, es.length = m → 1 ≤ n → InR n es → Ac es → (m : Int) + 1 ≤ n
  | 0, n, es, _, h1, _, _ => by omega
  | m + 1, n, [], hm, _, _, _ => by cases hm
  | m + 1, n, a :: r, hm, h1, hA, h => by
    obtain ⟨a1, a2, a3, a4⟩ := hA a List.mem_cons_self
    have hne : a.src ≠ a.dst := fun q => h.1 (by rw [q]; exact .refl _)
    have hA' : InR n r := fun c hc => hA c (List.mem_cons_of_mem _ hc)
    have := Ac.len m (n := n - 1) (es := r.map (mrg n a)) (by rw [List.length_map]; simpa using hm) (by omega) (mrg_inR a1 a2 a3 a4 hne hA') (Ac.merge a1 a2 a3 a4 hne hA' h.2 h.1)
    omega
theorem cnt_forest {q : Int} : ∀ (m : Nat) {n : Int} {es : List Arc}, es.length = m → 1 ≤ n → InR n es → Ac es → cnt q m n es = q ^ (n.toNat - m) * (q - 1) ^ m
  | 0, n, es, _, _, _, _ => by rw [cnt]; simp
  | m + 1, n, [], hm, _, _, _ => by cases hm
  | m + 1, n, a :: r, hm, h1, hA, h => by
    obtain ⟨a1, a2, a3, a4⟩ := hA a List.mem_cons_self
    have hne : a.src ≠ a.dst := fun q => h.1 (by rw [q]; exact .refl _)
    have hA' : InR n r := fun c hc => hA c (List.mem_cons_of_mem _ hc)
    have hl : r.length = m := by simpa using hm
    have hl2 : (r.map (mrg n a)).length = m := by rw [List.length_map]; exact hl
    have hmA := mrg_inR a1 a2 a3 a4 hne hA'
    have hmc := Ac.merge a1 a2 a3 a4 hne hA' h.2 h.1
    have hln := Ac.len m hl2 (by omega) hmA hmc
    rw [cnt, if_neg hne, cnt_forest m hl h1 hA' h.2, cnt_forest m hl2 (by omega) hmA hmc]
    obtain ⟨d, hd⟩ : ∃ d, n.toNat - (m + 1) = d := ⟨_, rfl⟩
    rw [show n.toNat - m = d + 1 by omega, show (n - 1).toNat - m = d by omega, hd, Int.pow_succ, Int.pow_succ]
    grind
theorem dec_ac {n : Nat} : ∀ {r L : List Int}, Lft n L r → Ac (decT L r)
  | [], L, h => by
    obtain ⟨a, b, ab, bn, ha, hb, hat⟩ := h.two
    have hlast : decT L [] = [⟨(a : Int), (b : Int), 0⟩] := by
      rw [decT]; unfold lastT; rw [ha, Int.toNat_natCast, hb]
    rw [hlast]
    refine ⟨fun q => ?_, trivial⟩
    have := lk_nil q
    have e : (a : Int) = b := this
    omega
  | k :: r, L, h => by
    obtain ⟨f, f1, f2, f3, f4, k0, k1, k2, hne⟩ := h.head
    have hnx := h.next
    have hat := h.next_at f1 f2 k0 k1 hne
    have hd : degT (decT (nextL L k) r) f = 0 := by
      have := dec_deg hnx f f2
      rw [hat f, if_pos rfl] at this
      omega
    rw [decT]
    refine ⟨fun q => ?_, dec_ac hnx⟩
    have hoff := deg_none hd
    have h5 := lk_iso (f := (f : Int)) (fun a ha => ⟨fun e => absurd e (hoff a ha).1, fun e => absurd e (hoff a ha).2⟩) q
    rw [f1] at h5
    unfold arcT at h5
    have h6 : (min (f : Int) k = f ↔ max (f : Int) k = f) := h5
    omega
theorem Tr.col {n : Nat} : ∀ (m : Nat) {live : Nat → Bool} {es : List Arc}, es.length = m → Tr n live es → ∃ c : Int → Bool, ∀ a ∈ es, c a.src ≠ c a.dst
  | 0, live, es, hm, _ => by
    obtain rfl : es = [] := List.eq_nil_of_length_eq_zero hm
    exact ⟨fun _ => true, fun a ha => by cases ha⟩
  | m + 1, live, es, hm, h => by
    obtain ⟨f, fn, hf⟩ := h.leaf (by omega)
    obtain ⟨pre, a, post, k, rfl, hL⟩ := h.find hf
    have hl2 : (pre ++ post).length = m := by rw [List.length_append, List.length_cons] at hm; rw [List.length_append]; omega
    obtain ⟨c, hc⟩ := Tr.col m hl2 hL.tr
    have hfk := hL.fk
    refine ⟨fun x => if x = (f : Int) then !c k else c x, fun b hb => ?_⟩
    rw [List.mem_append, List.mem_cons] at hb
    have hmid : b ∈ pre ++ post ∨ b = a := by
      rcases hb with q | q | q
      · exact .inl (List.mem_append.2 (.inl q))
      · exact .inr q
      · exact .inl (List.mem_append.2 (.inr q))
    show (if b.src = (f : Int) then !c k else c b.src) ≠ (if b.dst = (f : Int) then !c k else c b.dst)
    rcases hmid with q | rfl
    · obtain ⟨n1, n2⟩ := hL.off b q
      rw [if_neg n1, if_neg n2]
      exact hc b q
    · rcases hL.en with ⟨e1, e2⟩ | ⟨e1, e2⟩
      · rw [if_pos e1, if_neg (by omega), e2]; simp
      · rw [if_neg (by omega), if_pos e2, e1]; simp
theorem col_walk {es : List Arc} {c : Int → Bool} (h : ∀ a ∈ es, c a.src ≠ c a.dst) : ∀ {k : Nat} {u v : Int}, wk (bothA es) k u v = true → (c u = c v ↔ k % 2 = 0)
  | 0, u, v, hw => by rw [wk_zero.1 hw]; simp
  | k + 1, u, v, hw => by
    obtain ⟨a, ha, e, h2⟩ := wk_succ.1 hw
    have ih := col_walk h h2
    have hne : c a.src ≠ c a.dst := by
      rcases mem_both.1 ha with q | ⟨b, q, e2⟩
      · exact h a q
      · rw [e2]; exact Ne.symm (h b q)
    rw [← e]
    have : c a.src = c v ↔ ¬ (c a.dst = c v) := by
      cases h1 : c a.src <;> cases h3 : c a.dst <;> cases h4 : c v <;> simp_all
    rw [this, ih]
    omega
theorem sided_no {n : Int} {es : List Arc} (h12 : n ≤ 12) (hA : InR n es) {c : Int → Bool} (h : ∀ a ∈ es, c a.src ≠ c a.dst) : es.any (eqSide (sidesOf n es)) = false := by
  rw [List.any_eq_false]
  intro a ha hq
  have hs := sided_ref h12 hA
  obtain ⟨a1, a2, a3, a4⟩ := hA a ha
  obtain ⟨k1, w1, e1⟩ := hs.at_ a.src.toNat (by omega)
  obtain ⟨k2, w2, e2⟩ := hs.at_ a.dst.toNat (by omega)
  unfold eqSide at hq
  have hq := of_decide_eq_true hq
  rw [e1, e2] at hq
  have hr : rootOf n es a.src.toNat = rootOf n es a.dst.toNat := root_same h12 hA (by omega) (by omega) (k := 1) (by
    rw [Int.toNat_of_nonneg a1, Int.toNat_of_nonneg a3]; exact wk_one (mem_both.2 (.inl ha)))
  rw [hr] at w1
  have c1 := col_walk h w1
  have c2 := col_walk h w2
  rw [Int.toNat_of_nonneg a1] at c1
  rw [Int.toNat_of_nonneg a3] at c2
  have hne := h a ha
  have hk : k1 % 2 = k2 % 2 := by omega
  cases h1 : c a.src <;> cases h3 : c a.dst <;> cases h4 : c (rootOf n es a.dst.toNat) <;> simp_all <;> omega
theorem pot_walk {es : List Arc} {p : Int → Int} (h : ∀ a ∈ es, -1 ≤ p a.src - p a.dst ∧ p a.src - p a.dst ≤ 1) : ∀ {k : Nat} {u v : Int}, wk (bothA es) k u v = true → p v - p u ≤ k
  | 0, u, v, hw => by rw [wk_zero.1 hw]; omega
  | k + 1, u, v, hw => by
    obtain ⟨a, ha, e, h2⟩ := wk_succ.1 hw
    have ih := pot_walk h h2
    have hne : -1 ≤ p a.src - p a.dst ∧ p a.src - p a.dst ≤ 1 := by
      rcases mem_both.1 ha with q | ⟨b, q, e2⟩
      · exact h a q
      · rw [e2]
        have := h b q
        show -1 ≤ p b.dst - p b.src ∧ p b.dst - p b.src ≤ 1
        omega
    rw [← e]; omega
theorem DistC.dist {n : Int} {es : List Arc} {s t : Int} {d : Nat} (h : DistC es s t d) (h12 : n ≤ 12) (hA : InR n es) : Go.Ab.dist (bothA es) s t = d := by
  obtain ⟨p, p1, p2, p3⟩ := h.pot
  refine (dist_uniq h12 hA.both (.inr ⟨d, rfl, h.way⟩) fun k hk => ?_).symm
  have := pot_walk p3 hk
  omega
end Go.Ab
