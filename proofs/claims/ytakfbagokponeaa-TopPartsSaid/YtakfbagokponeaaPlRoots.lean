/- Of the table of a graph with some rows struck out: how many trees a tree has, and a tree with one arc more. -/
import Derived.Test.YtakfbagokponeaaPlCount
namespace Go.Ab
theorem det_addrow {n : Nat} {A : Nat → Nat → Int} {r t : Nat} (hr : r < n) (ht : t < n) (hrt : r ≠ t) (c : Int) : det n (setR A r fun j => 1 * A r j + c * A t j) = det n A := by
  rw [det_lin 1 c (A r) (A t) hr, setR_self]
  have : det n (setR A r (A t)) = 0 := det_eq hr ht hrt fun j _ => by rw [setR_at, setR_ne (Ne.symm hrt)]
  rw [this]; omega
theorem det_comb2 {n : Nat} {A : Nat → Nat → Int} {r : Nat} (hr : r < n) (w : Nat → Int) (hw : w r = 0) : ∀ {k : Nat}, k ≤ n → det n (setR A r fun j => A r j + sumTo k fun t => w t * A t j) = det n A
  | 0, _ => by
    have : det n (setR A r fun j => A r j + sumTo 0 fun t => w t * A t j) = det n (setR A r (A r)) := det_congr_row fun j _ => by simp [sumTo]
    rw [this, setR_self]
  | k + 1, hk => by
    have h1 := det_lin (n := n) (A := A) (r := r) 1 (w k) (fun j => A r j + sumTo k fun t => w t * A t j) (A k) hr
    have h2 : det n (setR A r fun j => A r j + sumTo (k + 1) fun t => w t * A t j) = det n (setR A r fun j => 1 * (A r j + sumTo k fun t => w t * A t j) + w k * A k j) := det_congr_row fun j _ => by rw [sumTo]; omega
    rw [h2, h1, det_comb2 hr w hw (by omega)]
    by_cases e : k = r
    · rw [e, hw]; omega
    · have : det n (setR A r (A k)) = 0 := det_eq hr (by omega) (Ne.symm e) fun j _ => by rw [setR_at, setR_ne e]
      rw [this]; omega
def rt (R : Nat → Bool) (es : List Arc) : Nat → Nat → Int := fun i j => if R i = true then unit i j else lap es i j
def Dr (n : Nat) (es : List Arc) (R : Nat → Bool) : Int := det n (rt R es)
def orR (R : Nat → Bool) (v : Nat) : Nat → Bool := fun i => R i || decide (i = v)
theorem orR_iff {R : Nat → Bool} {v i : Nat} : orR R v i = true ↔ R i = true ∨ i = v := by unfold orR; rw [Bool.or_eq_true, decide_eq_true_eq]
theorem unit_ne {s j : Nat} (h : j ≠ s) : unit s j = 0 := if_neg h
theorem unit_self (s : Nat) : unit s s = 1 := if_pos rfl
theorem det_id : ∀ n : Nat, det n (fun i j => unit i j) = 1
  | 0 => rfl
  | n + 1 => by
    rw [det, sum_one (c := 0) (by omega) (fun j _ hj => by rw [unit_ne hj]; simp), unit_self, sg_zero]
    rw [det_congr (B := fun i j => unit i j) fun i j _ _ => by rw [sk_zero]; unfold unit; by_cases q : j = i <;> simp [q], det_id n]; rfl
theorem Dr_all {n : Nat} {es : List Arc} {R : Nat → Bool} (h : ∀ v, v < n → R v = true) : Dr n es R = 1 := by
  rw [← det_id n]
  exact det_congr fun i j hi _ => if_pos (h i hi)
theorem ev_none {a : Arc} {f : Nat} (h1 : a.src ≠ (f : Int)) (h2 : a.dst ≠ (f : Int)) : ev a f = 0 := by unfold ev; rw [if_neg h1, if_neg h2]; rfl
theorem ev_ends {a : Arc} {f k : Nat} (h : ends a f k) (i j : Nat) : ev a i * ev a j = (unit f i - unit k i) * (unit f j - unit k j) := by
  unfold ev unit
  rcases h with ⟨e1, e2⟩ | ⟨e1, e2⟩
  · rw [e1, e2]
    congr 1 <;> congr 1 <;> (by_cases q : (0 : Int) = 0 <;> grind)
  · rw [e1, e2]
    grind
theorem lap_mid (pre post : List Arc) (a : Arc) (i j : Nat) : lap (pre ++ a :: post) i j = lap (pre ++ post) i j + ev a i * ev a j := by
  rw [lap_append, lap, lap_append]; omega
structure DistC (es : List Arc) (s t : Int) (d : Nat) : Prop where
  way : wk (bothA es) d s t = true
  pot : ∃ p : Int → Int, p s = 0 ∧ p t = d ∧ ∀ a ∈ es, -1 ≤ p a.src - p a.dst ∧ p a.src - p a.dst ≤ 1
theorem mid_more (pre post : List Arc) (a : Arc) : ∀ b ∈ pre ++ post, b ∈ pre ++ a :: post := fun b hb => by
  rw [List.mem_append] at hb
  rw [List.mem_append, List.mem_cons]
  rcases hb with q | q
  · exact .inl q
  · exact .inr (.inr q)
theorem Dr_single {n : Nat} {es : List Arc} {r : Nat} (R : Nat → Bool) (h : ∀ v, v < n → (R v = true ↔ v = r)) : Dr n es R = det n (setR (lap es) r (unit r)) := det_congr fun i j hi _ => by
  unfold rt
  by_cases q : i = r
  · subst q; rw [if_pos ((h i hi).2 rfl), setR_at]
  · rw [if_neg (fun c => q ((h i hi).1 c)), setR_ne q]
def isR (r : Nat) : Nat → Bool := fun v => decide (v = r)
theorem cnt_Dr {m : Nat} {es : List Arc} {n : Int} (hm : (m : Int) = n - 1) : cntVal n es = Dr (m + 1) es (isR m) := by
  rw [Dr_single (r := m) (isR m) (fun v _ => decide_eq_true_iff), det_unit_last]
  unfold cntVal
  rw [show (n - 1).toNat = m by omega]
end Go.Ab
