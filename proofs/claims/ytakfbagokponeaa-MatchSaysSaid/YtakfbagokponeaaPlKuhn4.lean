/- Of pairs of two sides: what sets of second sides can be met: the reference's table. -/
import Derived.Test.YtakfbagokponeaaPlKuhn3
namespace Go.Ab
theorem many_count (z : Int) : ∀ k, many z k = (List.range k).countP (has z)
  | 0 => rfl
  | k + 1 => by
    rw [many, many_count z k, List.range_succ, List.countP_append, List.countP_cons, List.countP_nil]; omega
theorem many_stepK {z : Int} (hz : 0 ≤ z) (k : Nat) : ((many z (k + 1) : Nat) : Int) = ((many z k : Nat) : Int) + iand (z / 2 ^ k) 1 := by
  have h := bit_has (z := z) (k : Int) hz
  unfold bit at h
  rw [Int.toNat_natCast] at h
  rw [h]
  simp only [many]
  split <;> omega
theorem many_16K {z : Int} {n : Nat} (h : ∀ v, n ≤ v → has z v = false) : ∀ k, n ≤ k → many z k = many z n
  | 0, hk => by rw [show n = 0 by omega]
  | k + 1, hk => by
    rcases Nat.lt_or_ge k n with q | q
    · rw [show k + 1 = n by omega]
    · rw [many, many_16K h k q, h k q]; simp
/-- The second sides that some pairs meet, whose first sides are below i. -/
def Meet (l : List Arc) (n : Nat) (i : Int) (z : Nat) : Prop := ∃ N, MtxK l n i N ∧ ∀ y, z.testBit y = true ↔ (y < n ∧ onM N y)
theorem bit_lt {z n : Nat} (h : ∀ y, z.testBit y = true → y < n) : z < 2 ^ n := by
  refine Nat.lt_pow_two_of_testBit z fun i hi => ?_
  cases e : z.testBit i
  · rfl
  · have := h i e; omega
theorem Meet.lt {l : List Arc} {n : Nat} {i : Int} {z : Nat} (h : Meet l n i z) : z < 2 ^ n := by
  obtain ⟨N, _, h2⟩ := h
  exact bit_lt fun y hy => ((h2 y).1 hy).1
theorem bits_ones {n : Nat} {N : List Int} {z : Nat} (h2 : ∀ y, z.testBit y = true ↔ (y < n ∧ onM N y)) (hl : N.length = n) (hn : n ≤ 16) : many z 16 = cntM N := by
  rw [many_16K (n := n) (fun v hv => by
    cases e : has (z : Int) v
    · rfl
    · unfold has at e; rw [Int.toNat_natCast] at e
      have := ((h2 v).1 e).1; omega) 16 hn, many_count, cnt_range, hl]
  refine List.countP_congr fun y hy => ?_
  have hy := List.mem_range.1 hy
  unfold has; rw [Int.toNat_natCast, h2 y]
  unfold onM; simp [hy]
theorem Meet.ones {l : List Arc} {n : Nat} {i : Int} {z : Nat} (h : Meet l n i z) (hn : n ≤ 16) : ∃ N, MtxK l n i N ∧ many z 16 = cntM N := by
  obtain ⟨N, h1, h2⟩ := h
  exact ⟨N, h1, bits_ones h2 h1.mt.len hn⟩
theorem bits_of (n : Nat) (N : List Int) : ∃ z : Nat, ∀ y, z.testBit y = true ↔ (y < n ∧ onM N y) := by
  have key : ∀ k, ∃ z : Nat, ∀ y, z.testBit y = true ↔ (y < k ∧ onM N y) := by
    intro k
    induction k with
    | zero => exact ⟨0, fun y => by simp⟩
    | succ k ih =>
      obtain ⟨z, hz⟩ := ih
      by_cases ho : onM N k
      · refine ⟨z ||| 2 ^ k, fun y => ?_⟩
        rw [Nat.testBit_or, Bool.or_eq_true, hz, Nat.testBit_two_pow, decide_eq_true_eq]
        constructor
        · rintro (⟨h1, h2⟩ | h1)
          · exact ⟨by omega, h2⟩
          · subst h1; exact ⟨by omega, ho⟩
        · rintro ⟨h1, h2⟩
          rcases Nat.lt_succ_iff_lt_or_eq.1 h1 with q | q
          · exact .inl ⟨q, h2⟩
          · exact .inr q.symm
      · refine ⟨z, fun y => ?_⟩
        rw [hz]
        constructor
        · exact fun h => ⟨by omega, h.2⟩
        · rintro ⟨h1, h2⟩
          rcases Nat.lt_succ_iff_lt_or_eq.1 h1 with q | q
          · exact ⟨q, h2⟩
          · subst q; exact absurd h2 ho
  exact key n
theorem meet_zero {l : List Arc} {n : Nat} (hs : ∀ k, k < l.length → 0 ≤ (l.getD k default).src) {z : Nat} : Meet l n 0 z ↔ z = 0 := by
  constructor
  · rintro ⟨N, h1, h2⟩
    refine Nat.eq_of_testBit_eq fun y => ?_
    rw [Nat.zero_testBit]
    cases e : z.testBit y
    · rfl
    · obtain ⟨y1, y2⟩ := (h2 y).1 e
      have h3 := h1.lf y y1 y2
      rcases h1.mt.ok y y1 with q | ⟨q1, q2, q3⟩
      · unfold onM at y2; omega
      · have := hs (N.getD y 0).toNat (by omega)
        unfold lfM at h3; omega
  · rintro rfl
    have hng : ∀ y, y < n → (List.replicate n (-1 : Int)).getD y 0 = -1 := fun y hy => by rw [getD_lt _ _ y (by rw [List.length_replicate]; exact hy), List.getElem_replicate]
    have hno : ∀ y, y < n → ¬ onM (List.replicate n (-1 : Int)) y := fun y hy q => by unfold onM at q; rw [hng y hy] at q; omega
    refine ⟨List.replicate n (-1), ⟨⟨List.length_replicate, fun y hy => .inl (hng y hy)⟩, fun y z hy _ _ _ _ oy _ => absurd oy (hno y hy), fun y hy oy => absurd oy (hno y hy)⟩, fun y => ?_⟩
    rw [Nat.zero_testBit]
    constructor
    · exact fun h => by cases h
    · rintro ⟨h1, h2⟩; exact absurd h2 (hno y h1)
/-- One first side more. -/
theorem meet_succ {l : List Arc} {n : Nat} (hd : DstIn l n) {i z : Nat} : Meet l n ((i + 1 : Nat) : Int) z ↔ Meet l n i z ∨ ∃ k s : Nat, k < l.length ∧ (l.getD k default).src = i ∧ s.testBit (dK l k) = false ∧ z = s ||| 2 ^ dK l k ∧ Meet l n i s := by
  have hc : ((i + 1 : Nat) : Int) = (i : Int) + 1 := by omega
  rw [hc]
  constructor
  · rintro ⟨N, h1, h2⟩
    by_cases hy : ∃ y, y < n ∧ onM N y ∧ lfM l N y = i
    · obtain ⟨y, y1, y2, y3⟩ := hy
      have hNl := h1.mt.len
      obtain ⟨q1, q2, q3⟩ := (h1.mt.ok y y1).resolve_left (fun q => by unfold onM at y2; omega)
      have hdy : dK l (N.getD y 0).toNat = y := by unfold dK; omega
      refine .inr ⟨(N.getD y 0).toNat, z ^^^ 2 ^ y, by omega, y3, ?_, ?_, N.set y (-1), h1.drop y1 y2 y3, fun x => ?_⟩
      · rw [hdy, Nat.testBit_xor, (h2 y).2 ⟨y1, y2⟩, Nat.testBit_two_pow]; simp
      · rw [hdy]
        refine Nat.eq_of_testBit_eq fun x => ?_
        rw [Nat.testBit_or, Nat.testBit_xor, Nat.testBit_two_pow]
        by_cases e : y = x
        · subst e; rw [(h2 y).2 ⟨y1, y2⟩]; simp
        · simp [e]
      · rw [Nat.testBit_xor, Nat.testBit_two_pow]
        by_cases e : y = x
        · subst e
          rw [(h2 y).2 ⟨y1, y2⟩]
          constructor
          · intro h; simp at h
          · rintro ⟨_, h⟩; unfold onM at h; rw [getD_set_self _ _ _ _ (by omega)] at h; omega
        · unfold onM; rw [getD_set_ne _ _ _ _ _ e]; have := h2 x; unfold onM at this; simp [e, this]
    · exact .inl ⟨N, ⟨h1.mt, h1.dist, fun y y1 y2 => by
        have q1 := h1.lf y y1 y2
        have q2 : lfM l N y ≠ i := fun e => hy ⟨y, y1, y2, e⟩
        omega⟩, h2⟩
  · rintro (⟨N, h1, h2⟩ | ⟨k, s, hk, hsrc, hb, rfl, N, h1, h2⟩)
    · exact ⟨N, h1.mono (by omega), h2⟩
    · have hNl := h1.mt.len
      have hdk := hd k hk
      obtain ⟨d, hde⟩ : ∃ d, dK l k = d := ⟨_, rfl⟩
      have hdn : d < n := by unfold dK at hde; omega
      rw [hde] at hb ⊢
      have hof : ¬ onM N d := fun q => by rw [(h2 d).2 ⟨hdn, q⟩] at hb; cases hb
      have hM' : MtK l n (N.set d k) := by have := h1.mt.set hk hd; unfold dK at hde; rwa [hde] at this
      have hgy : (N.set d (k : Int)).getD d 0 = k := getD_set_self _ _ _ _ (by omega)
      have hgo : ∀ x, x ≠ d → (N.set d (k : Int)).getD x 0 = N.getD x 0 := fun x hx => getD_set_ne _ _ _ _ _ (Ne.symm hx)
      have hly : lfM l (N.set d k) d = i := by unfold lfM; rw [hgy, Int.toNat_natCast]; exact hsrc
      have hlo : ∀ x, x ≠ d → lfM l (N.set d k) x = lfM l N x := fun x hx => by unfold lfM; rw [hgo x hx]
      have hon : ∀ x, x ≠ d → onM (N.set d k) x → onM N x := fun x hx ho => by unfold onM at ho ⊢; rwa [hgo x hx] at ho
      refine ⟨N.set d k, ⟨hM', fun a b ha hb9 _ _ hab oa ob => ?_, fun x hx ox => ?_⟩, fun x => ?_⟩
      · by_cases ea : a = d
        · subst ea
          rw [hly, hlo b (Ne.symm hab)]
          have := h1.lf b hb9 (hon b (Ne.symm hab) ob)
          omega
        · have := h1.lf a ha (hon a ea oa)
          by_cases eb : b = d
          · subst eb; rw [hly, hlo a ea]; omega
          · rw [hlo a ea, hlo b eb]; exact h1.dist a b ha hb9 trivial trivial hab (hon a ea oa) (hon b eb ob)
      · by_cases e : x = d
        · subst e; rw [hly]; omega
        · rw [hlo x e]; have := h1.lf x hx (hon x e ox); omega
      · rw [Nat.testBit_or, Nat.testBit_two_pow, Bool.or_eq_true, decide_eq_true_eq, h2]
        constructor
        · rintro (⟨x1, x2⟩ | rfl)
          · refine ⟨x1, ?_⟩
            by_cases e : x = d
            · subst e; exact absurd x2 hof
            · unfold onM at x2 ⊢; rwa [hgo x e]
          · exact ⟨hdn, by unfold onM; rw [hgy]; omega⟩
        · rintro ⟨x1, x2⟩
          by_cases e : x = d
          · exact .inr e.symm
          · exact .inl ⟨x1, hon x e x2⟩
/-! ### The table, in place -/
def RowI (l : List Arc) (n i : Nat) (s : Int) (R : List Bool) : Prop := R.length = 2 ^ n ∧ ∀ z, z < 2 ^ n → (R.getD z false = true ↔ Meet l n i z ∨ ∃ k q : Nat, k < l.length ∧ (l.getD k default).src = i ∧ q.testBit (dK l k) = false ∧ z = q ||| 2 ^ dK l k ∧ Meet l n i q ∧ s < (q : Int))
def ArcI (l : List Arc) (n i s j : Nat) (R : List Bool) : Prop := R.length = 2 ^ n ∧ ∀ z, z < 2 ^ n → (R.getD z false = true ↔ Meet l n i z ∨ ∃ k q : Nat, k < l.length ∧ (l.getD k default).src = i ∧ q.testBit (dK l k) = false ∧ z = q ||| 2 ^ dK l k ∧ Meet l n i q ∧ (s < q ∨ q = s ∧ k < j))
def TabI (l : List Arc) (n i : Nat) (R : List Bool) : Prop := R.length = 2 ^ n ∧ ∀ z, z < 2 ^ n → (R.getD z false = true ↔ Meet l n i z)
theorem tab_start {l : List Arc} {n : Nat} (hs : ∀ k, k < l.length → 0 ≤ (l.getD k default).src) : TabI l n 0 ((List.replicate (2 ^ n) false).set 0 true) := by
  have hp : 0 < 2 ^ n := Nat.pow_pos (by omega)
  refine ⟨by rw [List.length_set, List.length_replicate], fun z hz => ?_⟩
  rw [show ((0 : Nat) : Int) = 0 from rfl, meet_zero hs]
  by_cases e : z = 0
  · subst e; rw [getD_set_self _ _ _ _ (by rw [List.length_replicate]; exact hp)]; simp
  · rw [getD_set_ne _ _ _ _ _ (Ne.symm e), getD_lt _ _ z (by rw [List.length_replicate]; exact hz), List.getElem_replicate]; simp [e]
theorem TabI.row {l : List Arc} {n i : Nat} {R : List Bool} (h : TabI l n i R) {s : Int} (hs : ((2 ^ n : Nat) : Int) - 1 ≤ s) : RowI l n i s R := by
  refine ⟨h.1, fun z hz => ?_⟩
  rw [h.2 z hz]
  constructor
  · exact .inl
  · rintro (q | ⟨k, q, _, _, _, _, h5, h6⟩)
    · exact q
    · have := h5.lt; omega
theorem RowI.arc {l : List Arc} {n i s : Nat} {R : List Bool} (h : RowI l n i s R) : ArcI l n i s 0 R := by
  refine ⟨h.1, fun z hz => ?_⟩
  rw [h.2 z hz]
  constructor
  · rintro (q | ⟨k, q, h1, h2, h3, h4, h5, h6⟩)
    · exact .inl q
    · exact .inr ⟨k, q, h1, h2, h3, h4, h5, .inl (by omega)⟩
  · rintro (q | ⟨k, q, h1, h2, h3, h4, h5, h6⟩)
    · exact .inl q
    · exact .inr ⟨k, q, h1, h2, h3, h4, h5, by omega⟩
theorem ArcI.row {l : List Arc} {n i s j : Nat} {R : List Bool} (h : ArcI l n i s j R) (hj : l.length ≤ j) {s2 : Int} (hs : s2 = (s : Int) - 1) : RowI l n i s2 R := by
  refine ⟨h.1, fun z hz => ?_⟩
  rw [h.2 z hz]
  constructor
  · rintro (q | ⟨k, q, h1, h2, h3, h4, h5, h6⟩)
    · exact .inl q
    · exact .inr ⟨k, q, h1, h2, h3, h4, h5, by omega⟩
  · rintro (q | ⟨k, q, h1, h2, h3, h4, h5, h6⟩)
    · exact .inl q
    · exact .inr ⟨k, q, h1, h2, h3, h4, h5, by omega⟩
/-- What is asked at the round's own place. -/
theorem RowI.here {l : List Arc} {n i s : Nat} {R : List Bool} (h : RowI l n i s R) (hs : s < 2 ^ n) : R.getD s false = true ↔ Meet l n i s := by
  rw [h.2 s hs]
  constructor
  · rintro (q | ⟨k, q, h1, h2, h3, h4, h5, h6⟩)
    · exact q
    · have : q ≤ s := by rw [h4]; exact Nat.left_le_or
      omega
  · exact .inl
theorem RowI.skip {l : List Arc} {n i s : Nat} {R : List Bool} (h : RowI l n i s R) (hs : s < 2 ^ n) (hn : R.getD s false = false) {s2 : Int} (h2 : s2 = (s : Int) - 1) : RowI l n i s2 R := by
  have hm : ¬ Meet l n i s := fun q => by rw [(h.here hs).2 q] at hn; cases hn
  refine ⟨h.1, fun z hz => ?_⟩
  rw [h.2 z hz]
  constructor
  · rintro (q | ⟨k, q, h1, h2, h3, h4, h5, h6⟩)
    · exact .inl q
    · exact .inr ⟨k, q, h1, h2, h3, h4, h5, by omega⟩
  · rintro (q | ⟨k, q, h1, h2, h3, h4, h5, h6⟩)
    · exact .inl q
    · refine .inr ⟨k, q, h1, h2, h3, h4, h5, ?_⟩
      have : q ≠ s := fun e => hm (by rw [← e]; exact h5)
      omega
theorem ArcI.no {l : List Arc} {n i s j : Nat} {R : List Bool} (h : ArcI l n i s j R) (hn : ¬ ((l.getD j default).src = i ∧ s.testBit (dK l j) = false)) : ArcI l n i s (j + 1) R := by
  refine ⟨h.1, fun z hz => ?_⟩
  rw [h.2 z hz]
  constructor
  · rintro (q | ⟨k, q, h1, h2, h3, h4, h5, h6⟩)
    · exact .inl q
    · exact .inr ⟨k, q, h1, h2, h3, h4, h5, by omega⟩
  · rintro (q | ⟨k, q, h1, h2, h3, h4, h5, h6⟩)
    · exact .inl q
    · refine .inr ⟨k, q, h1, h2, h3, h4, h5, ?_⟩
      rcases h6 with h6 | ⟨rfl, h6⟩
      · exact .inl h6
      · rcases Nat.lt_succ_iff_lt_or_eq.1 h6 with q6 | rfl
        · exact .inr ⟨rfl, q6⟩
        · exact absurd ⟨h2, h3⟩ hn
theorem ArcI.yes {l : List Arc} {n i s j : Nat} {R : List Bool} (h : ArcI l n i s j R) (hj : j < l.length) (hm : Meet l n i s) (hd : DstIn l n) (h1 : (l.getD j default).src = i) (h2 : s.testBit (dK l j) = false) : ArcI l n i s (j + 1) (R.set (s ||| 2 ^ dK l j) true) := by
  have hdj := hd j hj
  have hlt : s ||| 2 ^ dK l j < 2 ^ n := Nat.or_lt_two_pow hm.lt (Nat.pow_lt_pow_right (by omega) (by unfold dK; omega))
  refine ⟨by rw [List.length_set]; exact h.1, fun z hz => ?_⟩
  by_cases e : s ||| 2 ^ dK l j = z
  · subst e
    rw [getD_set_self _ _ _ _ (by rw [h.1]; exact hlt)]
    exact ⟨fun _ => .inr ⟨j, s, hj, h1, h2, rfl, hm, .inr ⟨rfl, by omega⟩⟩, fun _ => rfl⟩
  · rw [getD_set_ne _ _ _ _ _ e, h.2 z hz]
    constructor
    · rintro (q | ⟨k, q, h1, h2, h3, h4, h5, h6⟩)
      · exact .inl q
      · exact .inr ⟨k, q, h1, h2, h3, h4, h5, by omega⟩
    · rintro (q | ⟨k, q, h1, h2, h3, h4, h5, h6⟩)
      · exact .inl q
      · refine .inr ⟨k, q, h1, h2, h3, h4, h5, ?_⟩
        rcases h6 with h6 | ⟨rfl, h6⟩
        · exact .inl h6
        · rcases Nat.lt_succ_iff_lt_or_eq.1 h6 with q6 | rfl
          · exact .inr ⟨rfl, q6⟩
          · exact absurd h4.symm e
theorem RowI.tab {l : List Arc} {n i : Nat} {R : List Bool} {s : Int} (h : RowI l n i s R) (hs : s < 0) (hd : DstIn l n) : TabI l n (i + 1) R := by
  refine ⟨h.1, fun z hz => ?_⟩
  rw [h.2 z hz, meet_succ hd]
  constructor
  · rintro (q | ⟨k, q, h1, h2, h3, h4, h5, h6⟩)
    · exact .inl q
    · exact .inr ⟨k, q, h1, h2, h3, h4, h5⟩
  · rintro (q | ⟨k, q, h1, h2, h3, h4, h5⟩)
    · exact .inl q
    · exact .inr ⟨k, q, h1, h2, h3, h4, h5, by omega⟩
/-- The best so far. -/
def BestK (l : List Arc) (n : Nat) (i : Int) (s : Nat) (b : Int) : Prop := (∀ z, z < s → Meet l n i z → (many z 16 : Int) ≤ b) ∧ (b = 0 ∨ ∃ z, Meet l n i z ∧ (many z 16 : Int) = b) ∧ 0 ≤ b
theorem BestK.start {l : List Arc} {n : Nat} {i : Int} : BestK l n i 0 0 := ⟨fun z h => by omega, .inl rfl, Int.le_refl _⟩
theorem BestK.yes {l : List Arc} {n : Nat} {i : Int} {s : Nat} {b : Int} (h : BestK l n i s b) (hm : Meet l n i s) : BestK l n i (s + 1) (max b (many s 16 : Nat)) := by
  obtain ⟨h1, h2, h3⟩ := h
  refine ⟨fun z hz q => ?_, ?_, by omega⟩
  · rcases Nat.lt_succ_iff_lt_or_eq.1 hz with q1 | rfl
    · have := h1 z q1 q; omega
    · omega
  · rcases Int.lt_or_le b (many s 16 : Nat) with q | q
    · exact .inr ⟨s, hm, by omega⟩
    · rw [show max b (many s 16 : Nat) = b by omega]; exact h2
theorem BestK.no {l : List Arc} {n : Nat} {i : Int} {s : Nat} {b : Int} (h : BestK l n i s b) (hm : ¬ Meet l n i s) : BestK l n i (s + 1) b := by
  obtain ⟨h1, h2, h3⟩ := h
  refine ⟨fun z hz q => ?_, h2, h3⟩
  rcases Nat.lt_succ_iff_lt_or_eq.1 hz with q1 | rfl
  · exact h1 z q1 q
  · exact absurd q hm
theorem BestK.all {l : List Arc} {n m : Nat} {s : Nat} {b : Int} (h : BestK l n m s b) (hs : 2 ^ n ≤ s) (hn : n ≤ 16) (hd : DstIn l n) (hsr : ∀ k, k < l.length → 0 ≤ (l.getD k default).src) : b = cntM (matesP l n m) := by
  obtain ⟨h1, h2, h3⟩ := h
  obtain ⟨g1, g2⟩ := mates_max hd hsr m
  have hle : b ≤ cntM (matesP l n m) := by
    rcases h2 with q | ⟨z, z1, z2⟩
    · omega
    · obtain ⟨N, n1, n2⟩ := z1.ones hn
      have := g2 N n1; omega
  obtain ⟨z, hz⟩ := bits_of n (matesP l n m)
  have hm : Meet l n m z := ⟨_, g1, hz⟩
  have h4 := bits_ones hz g1.mt.len hn
  have := h1 z (by have := hm.lt; omega) hm
  omega
end Go.Ab
