/- Of forests: how many colourings, two sides, how far. -/
import Derived.Test.YtakfbagokponeaaPlRoots
namespace Go.Ab
def mrgI (n : Int) (a : Arc) (k : Int) : Int := if k = max a.src a.dst then min a.src a.dst else if k = n - 1 then max a.src a.dst else k
def mrg (n : Int) (a b : Arc) : Arc := ⟨mrgI n a b.src, mrgI n a b.dst, 0⟩
def cnt (q : Int) : Nat → Int → List Arc → Int
  | 0, n, _ => q ^ n.toNat
  | _ + 1, n, [] => q ^ n.toNat
  | k + 1, n, a :: r => if a.src = a.dst then 0 else cnt q k n r - cnt q k (n - 1) (r.map (mrg n a))
def two (k : Nat) : Int := 2 ^ k
def Ac : List Arc → Prop
  | [] => True
  | a :: r => ¬ Lk r a.src a.dst ∧ Ac r
theorem mrg_in {n : Int} {a : Arc} (h0 : 0 ≤ a.src) (h1 : a.src < n) (h2 : 0 ≤ a.dst) (h3 : a.dst < n) (hne : a.src ≠ a.dst) {x : Int} (hx0 : 0 ≤ x) (hx1 : x < n) : 0 ≤ mrgI n a x ∧ mrgI n a x < n - 1 := by
  unfold mrgI; split
  · omega
  · split <;> omega
theorem mrg_eq {n : Int} {a : Arc} (h0 : 0 ≤ a.src) (h1 : a.src < n) (h2 : 0 ≤ a.dst) (h3 : a.dst < n) (hne : a.src ≠ a.dst) {x y : Int} (hx : x < n) (hy : y < n) (e : mrgI n a x = mrgI n a y) : x = y ∨ (x = a.src ∧ y = a.dst) ∨ (x = a.dst ∧ y = a.src) := by
  unfold mrgI at e
  split at e <;> split at e <;> (try split at e) <;> (try split at e) <;> omega
theorem mrg_lk0 {n : Int} {a : Arc} (h0 : 0 ≤ a.src) (h1 : a.src < n) (h2 : 0 ≤ a.dst) (h3 : a.dst < n) (hne : a.src ≠ a.dst) {r : List Arc} {x y : Int} (hx : x < n) (hy : y < n) (e : mrgI n a x = mrgI n a y) : Lk (a :: r) x y := by
  rcases mrg_eq h0 h1 h2 h3 hne hx hy e with q | ⟨q1, q2⟩ | ⟨q1, q2⟩
  · rw [q]; exact .refl _
  · rw [q1, q2]; exact .arc List.mem_cons_self
  · rw [q1, q2]; exact .symm (.arc List.mem_cons_self)
theorem mrg_lk {n : Int} {a : Arc} (h0 : 0 ≤ a.src) (h1 : a.src < n) (h2 : 0 ≤ a.dst) (h3 : a.dst < n) (hne : a.src ≠ a.dst) {r : List Arc} (hA : InR n r) {u v : Int} (h : Lk (r.map (mrg n a)) u v) :
    (∀ x, 0 ≤ x → x < n → mrgI n a x = u → ∃ y, 0 ≤ y ∧ y < n ∧ mrgI n a y = v ∧ Lk (a :: r) x y) ∧ (∀ y, 0 ≤ y → y < n → mrgI n a y = v → ∃ x, 0 ≤ x ∧ x < n ∧ mrgI n a x = u ∧ Lk (a :: r) x y) := by
  induction h with
  | refl u => exact ⟨fun x p q e => ⟨x, p, q, e, .refl _⟩, fun x p q e => ⟨x, p, q, e, .refl _⟩⟩
  | symm _ ih =>
    refine ⟨fun x p q e => ?_, fun x p q e => ?_⟩
    · obtain ⟨y, y1, y2, y3, y4⟩ := ih.2 x p q e
      exact ⟨y, y1, y2, y3, y4.symm⟩
    · obtain ⟨y, y1, y2, y3, y4⟩ := ih.1 x p q e
      exact ⟨y, y1, y2, y3, y4.symm⟩
  | trans _ _ g1 g2 =>
    refine ⟨fun x p q e => ?_, fun x p q e => ?_⟩
    · obtain ⟨y, y1, y2, y3, y4⟩ := g1.1 x p q e
      obtain ⟨z, z1, z2, z3, z4⟩ := g2.1 y y1 y2 y3
      exact ⟨z, z1, z2, z3, y4.trans z4⟩
    · obtain ⟨y, y1, y2, y3, y4⟩ := g2.2 x p q e
      obtain ⟨z, z1, z2, z3, z4⟩ := g1.2 y y1 y2 y3
      exact ⟨z, z1, z2, z3, z4.trans y4⟩
  | arc hb0 =>
    obtain ⟨b, hb, rfl⟩ := List.mem_map.1 hb0
    obtain ⟨b1, b2, b3, b4⟩ := hA b hb
    have hs : Lk (a :: r) b.src b.dst := .arc (List.mem_cons_of_mem _ hb)
    exact ⟨fun x p q e => ⟨b.dst, b3, b4, rfl, (mrg_lk0 h0 h1 h2 h3 hne q b2 e).trans hs⟩, fun x p q e => ⟨b.src, b1, b2, rfl, hs.trans (mrg_lk0 h0 h1 h2 h3 hne b4 q e.symm)⟩⟩
theorem lk_cons {A : List Arc} {a : Arc} {u v : Int} (h : Lk (a :: A) u v) : Lk A u v ∨ (Lk A u a.src ∧ Lk A a.dst v) ∨ (Lk A u a.dst ∧ Lk A a.src v) :=
  lk_snoc.1 (h.mono fun b hb => by rw [List.mem_append, List.mem_singleton]; exact (List.mem_cons.1 hb).symm)
theorem Ac.merge {n : Int} {a : Arc} (h0 : 0 ≤ a.src) (h1 : a.src < n) (h2 : 0 ≤ a.dst) (h3 : a.dst < n) (hne : a.src ≠ a.dst) : ∀ {r : List Arc}, InR n r → Ac r → ¬ Lk r a.src a.dst → Ac (r.map (mrg n a))
  | [], _, _, _ => trivial
  | b :: r, hA, h, hn => by
    obtain ⟨b1, b2, b3, b4⟩ := hA b List.mem_cons_self
    have hA' : InR n r := fun c hc => hA c (List.mem_cons_of_mem _ hc)
    have hn' : ¬ Lk r a.src a.dst := fun q => hn (q.mono fun c hc => List.mem_cons_of_mem _ hc)
    refine ⟨fun q => ?_, Ac.merge h0 h1 h2 h3 hne hA' h.2 hn'⟩
    obtain ⟨y, y1, y2, y3, y4⟩ := (mrg_lk h0 h1 h2 h3 hne hA' q).1 b.src b1 b2 rfl
    have q2 := y4.trans (mrg_lk0 (r := r) h0 h1 h2 h3 hne y2 b4 y3)
    have hm : ∀ {u v : Int}, Lk r u v → Lk (b :: r) u v := fun g => g.mono fun c hc => List.mem_cons_of_mem _ hc
    have hb : Lk (b :: r) b.src b.dst := .arc List.mem_cons_self
    rcases lk_cons q2 with c | ⟨c1, c2⟩ | ⟨c1, c2⟩
    · exact h.1 c
    · exact hn (((hm c1).symm.trans hb).trans (hm c2).symm)
    · exact hn (((hm c2).trans hb.symm).trans (hm c1))
theorem mrg_inR {n : Int} {a : Arc} (h0 : 0 ≤ a.src) (h1 : a.src < n) (h2 : 0 ≤ a.dst) (h3 : a.dst < n) (hne : a.src ≠ a.dst) {r : List Arc} (hA : InR n r) : InR (n - 1) (r.map (mrg n a)) := fun b hb => by
  obtain ⟨c, hc, rfl⟩ := List.mem_map.1 hb
  obtain ⟨c1, c2, c3, c4⟩ := hA c hc
  have e1 := mrg_in h0 h1 h2 h3 hne c1 c2
  have e2 := mrg_in h0 h1 h2 h3 hne c3 c4
  exact ⟨e1.1, e1.2, e2.1, e2.2⟩
theorem Ac.len : ∀ (m : Nat) {n : Int} {es : List Arc}, es.length = m → 1 ≤ n → InR n es → Ac es → (m : Int) + 1 ≤ n
  | 0, n, es, _, h1, _, _ => by omega
  | m + 1, n, [], hm, _, _, _ => by cases hm
  | m + 1, n, a :: r, hm, h1, hA, h => by
    obtain ⟨a1, a2, a3, a4⟩ := hA a List.mem_cons_self
    have hne : a.src ≠ a.dst := fun q => h.1 (by rw [q]; exact .refl _)
    have hA' : InR n r := fun c hc => hA c (List.mem_cons_of_mem _ hc)
    have := Ac.len m (n := n - 1) (es := r.map (mrg n a)) (by rw [List.length_map]; simpa using hm) (by omega) (mrg_inR a1 a2 a3 a4 hne hA') (Ac.merge a1 a2 a3 a4 hne hA' h.2 h.1)
    omega
end Go.Ab
