/- Of pushes: what is sent, what is lifted, who is busy: the plain laws. -/
import Derived.Test.YtdglhalkilneaaaPlPush2
import Derived.Test.YtdglhalkilneaaaPlPairs
namespace Go.Ab
def idleOf (s t : Int) (es : List Arc) (f : List Int) (k : Int) : Bool := decide (k = s ∨ k = t ∨ gone es f k = 0)
theorem idle_yes {s t : Int} {es : List Arc} {f : List Int} {k : Int} (h : k = s ∨ k = t ∨ gone es f k = 0) : idleOf s t es f k = true := decide_eq_true h
theorem idle_no {s t : Int} {es : List Arc} {f : List Int} {k : Int} (h1 : k ≠ s) (h2 : k ≠ t) (h3 : gone es f k ≠ 0) : idleOf s t es f k = false := decide_eq_false (by rintro (h | h | h); exact h1 h; exact h2 h; exact h3 h)
theorem idle_true {s t : Int} {es : List Arc} {f : List Int} {k : Int} (h : idleOf s t es f k = true) : k = s ∨ k = t ∨ gone es f k = 0 := of_decide_eq_true h
theorem idle_false {s t : Int} {es : List Arc} {f : List Int} {k : Int} (h : idleOf s t es f k = false) : k ≠ s ∧ k ≠ t ∧ gone es f k ≠ 0 := by
  have h := of_decide_eq_false h
  exact ⟨fun q => h (.inl q), fun q => h (.inr (.inl q)), fun q => h (.inr (.inr q))⟩
def sendSrc (es : List Arc) (k : Nat) (back : Bool) : Int := if back = true then (es.getD k default).dst else (es.getD k default).src
def sendDst (es : List Arc) (k : Nat) (back : Bool) : Int := if back = true then (es.getD k default).src else (es.getD k default).dst
def sendRoom (es : List Arc) (f : List Int) (k : Nat) (back : Bool) : Int := if back = true then f.getD k 0 else (es.getD k default).cap - f.getD k 0
def sendErr (s t : Int) (es : List Arc) (f h : List Int) (k : Int) (back : Bool) : Int :=
  if k < 0 ∨ (es.length : Int) ≤ k then 5
  else if idleOf s t es f (sendSrc es k.toNat back) = true ∨ h.getD (sendSrc es k.toNat back).toNat 0 ≠ h.getD (sendDst es k.toNat back).toNat 0 + 1 ∨ sendRoom es f k.toNat back ≤ 0 then 9 else 0
def sendBy (es : List Arc) (f : List Int) (k : Nat) (back : Bool) : Int := (if back = true then -1 else 1) * min (sendRoom es f k back) (-(gone es f (sendSrc es k back)))
def sendFlow (es : List Arc) (f : List Int) (k : Int) (back : Bool) : List Int := f.set k.toNat (f.getD k.toNat 0 + sendBy es f k.toNat back)
def bothErr (a b : Int) : Int := if a ≠ 0 then a else b
theorem bothErr_no {a b : Int} (h : a ≠ 0) : bothErr a b = a := if_pos h
theorem bothErr_ok {a b : Int} (h : a = 0) : bothErr a b = b := if_neg (by omega)
theorem sendErr_far {s t : Int} {es : List Arc} {f h : List Int} {k : Int} {back : Bool} (q : k < 0 ∨ (es.length : Int) ≤ k) : sendErr s t es f h k back = 5 := if_pos q
theorem sendErr_in {s t : Int} {es : List Arc} {f h : List Int} {k : Int} {back : Bool} {x y r : Int} (h0 : 0 ≤ k) (h1 : k < es.length) (hx : sendSrc es k.toNat back = x) (hy : sendDst es k.toNat back = y) (hr : sendRoom es f k.toNat back = r) :
    sendErr s t es f h k back = if idleOf s t es f x = true ∨ h.getD x.toNat 0 ≠ h.getD y.toNat 0 + 1 ∨ r ≤ 0 then 9 else 0 := by
  unfold sendErr
  rw [if_neg (by omega), hx, hy, hr]
theorem sendFlow_of {es : List Arc} {f : List Int} {k : Int} {back : Bool} {x r g : Int} (hx : sendSrc es k.toNat back = x) (hr : sendRoom es f k.toNat back = r) (hg : g = (if back = true then -1 else 1) * min r (-(gone es f x))) :
    f.set k.toNat (f.getD k.toNat 0 + g) = sendFlow es f k back := by
  unfold sendFlow sendBy
  rw [hx, hr, hg]
theorem busy_is {s t : Int} {es : List Arc} {f : List Int} {w x : Int} (hx : x = -(gone es f w)) (hl : w ≠ s → gone es f w ≤ 0) : (((decide (w ≠ s)) && (decide (w ≠ t))) && (decide ((0 : Int) < x))) = !(idleOf s t es f w) := by
  subst hx
  unfold idleOf
  by_cases h1 : w = s
  · simp [h1]
  · by_cases h2 : w = t
    · simp [h2]
    · have := hl h1
      by_cases h3 : gone es f w = 0
      · simp [h1, h2, h3]
      · simp [h1, h2, h3]; omega
theorem idle_is {s t : Int} {es : List Arc} {f : List Int} {w : Int} : (((decide (w = s)) || (decide (w = t))) || (decide ((gone es f w) = 0))) = idleOf s t es f w := by
  unfold idleOf
  rw [Bool.decide_or, Bool.decide_or, Bool.or_assoc]
theorem highAt_no {n s t : Int} {h : List Int} (hh : high n s t h = false) {k : Nat} (hk : k < n.toNat) : 0 ≤ h.getD k 0 ∧ h.getD k 0 ≤ 2 * n := by
  have h1 : highAt n s t h k = false := by
    cases e : highAt n s t h k
    · rfl
    · have : high n s t h = true := any_range.2 ⟨k, hk, e⟩
      rw [hh] at this; cases this
  have := of_decide_eq_false h1
  omega
/-! ### What is lifted -/
def minF (m : Int) (l : List Int) : Int := l.foldl min m
theorem minF_nil (m : Int) : minF m [] = m := rfl
theorem minF_cons (m x : Int) (l : List Int) : minF m (x :: l) = minF (min m x) l := rfl
theorem minF_append (m : Int) (a b : List Int) : minF m (a ++ b) = minF (minF m a) b := List.foldl_append
theorem minF_le : ∀ (l : List Int) (m : Int), minF m l ≤ m
  | [], m => Int.le_refl _
  | x :: r, m => by
    rw [minF_cons]
    have := minF_le r (min m x)
    omega
theorem minF_mono : ∀ (l : List Int) (m k : Int), m ≤ k → minF m l ≤ minF k l
  | [], m, k, h => h
  | x :: r, m, k, h => by rw [minF_cons, minF_cons]; exact minF_mono r _ _ (by omega)
theorem minF_ge {a : Int} : ∀ (l : List Int) (m : Int), a ≤ m → (∀ x ∈ l, a ≤ x) → a ≤ minF m l
  | [], m, h, _ => h
  | x :: r, m, h, hx => by
    rw [minF_cons]
    have h1 := hx x List.mem_cons_self
    exact minF_ge r _ (by omega) (fun y hy => hx y (List.mem_cons_of_mem _ hy))
theorem minF_bound {l : List Int} {B : Int} (h : l ≠ []) (hb : ∀ x ∈ l, x ≤ B) : minF B l = minOf l := by
  cases l with
  | nil => exact absurd rfl h
  | cons x r =>
    have h1 := hb x List.mem_cons_self
    rw [minF_cons, show min B x = x by omega]; rfl
theorem minF_drop {l : List Int} {i : Nat} (m : Int) (h : i < l.length) : minF m (l.drop i) = minF (min m (l.getD i 0)) (l.drop (i + 1)) := by
  rw [drop_getD l 0 i h, minF_cons]
def lows (h : List Int) (w : Int) (q : List Arc) : List Int := (q.filter fun a => decide (a.src = w)).map fun a => h.getD a.dst.toNat 0 + 1
theorem lows_append (h : List Int) (w : Int) (a b : List Arc) : lows h w (a ++ b) = lows h w a ++ lows h w b := by simp [lows]
theorem lows_one (h : List Int) (w : Int) (a : Arc) : lows h w [a] = if a.src = w then [h.getD a.dst.toNat 0 + 1] else [] := by
  by_cases q : a.src = w <;> simp [lows, q]
theorem lows_if {h : List Int} {w m : Int} {x : Arc} {c : Prop} [Decidable c] : minF m (lows h w (if c then [x] else [])) = if x.src = w ∧ c then min m (h.getD x.dst.toNat 0 + 1) else m := by
  by_cases hc : c
  · by_cases hx : x.src = w
    · rw [if_pos hc, lows_one, if_pos hx, if_pos ⟨hx, hc⟩]; rfl
    · rw [if_pos hc, lows_one, if_neg hx, if_neg (fun q => hx q.1)]; rfl
  · rw [if_neg hc, if_neg (fun q => hc q.2)]; rfl
theorem lows_drop {h : List Int} {w : Int} {q : List Arc} {i : Nat} (hi : i < q.length) : lows h w (q.drop i) = (if (q.getD i default).src = w then [h.getD (q.getD i default).dst.toNat 0 + 1] else []) ++ lows h w (q.drop (i + 1)) := by
  rw [drop_getD q default i hi, show q.getD i default :: q.drop (i + 1) = [q.getD i default] ++ q.drop (i + 1) from rfl, lows_append, lows_one]
theorem lows_end {h : List Int} {w : Int} {q : List Arc} {i : Nat} (hi : q.length ≤ i) : lows h w (q.drop i) = [] := by rw [List.drop_of_length_le hi]; rfl
theorem lows_len (h : List Int) (w : Int) (q : List Arc) : (lows h w q).length ≤ q.length := by
  unfold lows; rw [List.length_map]; exact List.length_filter_le _ _
/-- What lifting starts from. -/
def lowAt (w : Int) (es : List Arc) (f h : List Int) (m : Int) : Int := minF m (lows h w (stepsOf es f))
theorem lowAt_drop {w : Int} {es : List Arc} {f h : List Int} {i : Nat} (m : Int) (h1 : i < es.length) (h2 : f.length = es.length) :
    lowAt w (es.drop i) (f.drop i) h m = lowAt w (es.drop (i + 1)) (f.drop (i + 1)) h
      (if (es.getD i default).dst = w ∧ 0 < f.getD i 0 then min (if (es.getD i default).src = w ∧ f.getD i 0 < (es.getD i default).cap then min m (h.getD (es.getD i default).dst.toNat 0 + 1) else m) (h.getD (es.getD i default).src.toNat 0 + 1)
        else (if (es.getD i default).src = w ∧ f.getD i 0 < (es.getD i default).cap then min m (h.getD (es.getD i default).dst.toNat 0 + 1) else m)) := by
  unfold lowAt
  rw [steps_drop h1 h2, lows_append, lows_append, minF_append, minF_append, lows_if, lows_if]
theorem lowAt_end {w : Int} {es : List Arc} {f h : List Int} {i : Nat} (m : Int) (hi : es.length ≤ i) : lowAt w (es.drop i) (f.drop i) h m = m := by
  unfold lowAt; rw [steps_end hi]; rfl
def liftLow (n w : Int) (es : List Arc) (f h : List Int) : Int := lowAt w es f h (2 * n + 1)
theorem lows_high {n w : Int} {es : List Arc} {f h : List Int} (hh : ∀ k : Nat, (k : Int) < n → 0 ≤ h.getD k 0 ∧ h.getD k 0 ≤ 2 * n)
    (hs : ∀ a ∈ stepsOf es f, 0 ≤ a.src ∧ a.src < n ∧ 0 ≤ a.dst ∧ a.dst < n) : ∀ x ∈ lows h w (stepsOf es f), 1 ≤ x ∧ x ≤ 2 * n + 1 := by
  intro x hx
  simp only [lows, List.mem_map, List.mem_filter] at hx
  obtain ⟨a, ⟨ha, _⟩, rfl⟩ := hx
  obtain ⟨h1, h2, h3, h4⟩ := hs a ha
  have := hh a.dst.toNat (by omega)
  omega
theorem liftLow_none {n w : Int} {es : List Arc} {f h : List Int} (he : lows h w (stepsOf es f) = []) : liftLow n w es f h = 2 * n + 1 := by
  unfold liftLow lowAt; rw [he]; rfl
theorem liftLow_some {n w : Int} {es : List Arc} {f h : List Int} (hh : ∀ k : Nat, (k : Int) < n → 0 ≤ h.getD k 0 ∧ h.getD k 0 ≤ 2 * n)
    (hs : ∀ a ∈ stepsOf es f, 0 ≤ a.src ∧ a.src < n ∧ 0 ≤ a.dst ∧ a.dst < n) (he : lows h w (stepsOf es f) ≠ []) : minOf (lows h w (stepsOf es f)) = liftLow n w es f h := by
  unfold liftLow lowAt
  exact (minF_bound he fun x hx => (lows_high hh hs x hx).2).symm
theorem low_b {n w : Int} {es : List Arc} {f h b : List Int} (hh : ∀ k : Nat, (k : Int) < n → 0 ≤ h.getD k 0 ∧ h.getD k 0 ≤ 2 * n)
    (hs : ∀ a ∈ stepsOf es f, 0 ≤ a.src ∧ a.src < n ∧ 0 ≤ a.dst ∧ a.dst < n) (hb : b = lows h w (stepsOf es f)) : (b.length = 0 ∧ liftLow n w es f h = 2 * n + 1) ∨ (b.length ≠ 0 ∧ minOf b = liftLow n w es f h) := by
  subst hb
  by_cases he : lows h w (stepsOf es f) = []
  · exact .inl ⟨by rw [he]; rfl, liftLow_none he⟩
  · exact .inr ⟨fun q => he (List.eq_nil_of_length_eq_zero q), liftLow_some hh hs he⟩
def liftErr (n s t : Int) (es : List Arc) (f h : List Int) (w : Int) : Int :=
  if w < 0 ∨ n ≤ w then 4 else if idleOf s t es f w = true then 9 else if liftLow n w es f h ≤ h.getD w.toNat 0 ∨ 2 * n < liftLow n w es f h then 9 else 0
def liftHeight (n : Int) (es : List Arc) (f h : List Int) (w : Int) : List Int := h.set w.toNat (liftLow n w es f h)
theorem liftErr_far {n s t : Int} {es : List Arc} {f h : List Int} {w : Int} (q : w < 0 ∨ n ≤ w) : liftErr n s t es f h w = 4 := if_pos q
theorem liftErr_idle {n s t : Int} {es : List Arc} {f h : List Int} {w : Int} (h0 : 0 ≤ w) (h1 : w < n) (q : idleOf s t es f w = true) : liftErr n s t es f h w = 9 := by
  unfold liftErr; rw [if_neg (by omega), if_pos q]
theorem liftErr_bad {n s t : Int} {es : List Arc} {f h : List Int} {w : Int} (h0 : 0 ≤ w) (h1 : w < n) (q : idleOf s t es f w = false) (hb : liftLow n w es f h ≤ h.getD w.toNat 0 ∨ 2 * n < liftLow n w es f h) : liftErr n s t es f h w = 9 := by
  unfold liftErr; rw [if_neg (by omega), if_neg (by rw [q]; decide), if_pos hb]
theorem liftErr_ok {n s t : Int} {es : List Arc} {f h : List Int} {w : Int} (h0 : 0 ≤ w) (h1 : w < n) (q : idleOf s t es f w = false) (hb : ¬ (liftLow n w es f h ≤ h.getD w.toNat 0 ∨ 2 * n < liftLow n w es f h)) : liftErr n s t es f h w = 0 := by
  unfold liftErr; rw [if_neg (by omega), if_neg (by rw [q]; decide), if_neg hb]
/-! ### Who is busy -/
def busyFrom (p : Int → Bool) : Nat → Nat → List Int
  | _, 0 => []
  | i, m + 1 => (if p (i : Int) = true then [(i : Int)] else []) ++ busyFrom p (i + 1) m
theorem busyFrom_step {p : Int → Bool} {i n : Nat} (h : i < n) : busyFrom p i (n - i) = (if p (i : Int) = true then [(i : Int)] else []) ++ busyFrom p (i + 1) (n - (i + 1)) := by
  rw [show n - i = (n - (i + 1)) + 1 by omega]; rfl
theorem busyFrom_end {p : Int → Bool} {i n : Nat} (h : n ≤ i) : busyFrom p i (n - i) = [] := by rw [show n - i = 0 by omega]; rfl
theorem busyFrom_len {p : Int → Bool} : ∀ (m i : Nat), (busyFrom p i m).length ≤ m
  | 0, i => by simp [busyFrom]
  | m + 1, i => by
    have := busyFrom_len (p := p) m (i + 1)
    simp only [busyFrom, List.length_append]
    split <;> simp only [List.length_cons, List.length_nil] <;> omega
def busyOf (n s t : Int) (es : List Arc) (f : List Int) : List Int := busyFrom (fun k => !idleOf s t es f k) 0 n.toNat
end Go.Ab
