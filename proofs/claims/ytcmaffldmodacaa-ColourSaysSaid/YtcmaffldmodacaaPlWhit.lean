/- Of colours: by all sets of arcs (Whitney): the plain laws. -/
import Derived.Test.YtcmaffldmodacaaPlForest
namespace Go.Ab
def wMrg (x y : Int) (p : List Int) : List Int := p.map fun i => if i = y then x else i
def wit (q : Int) : List Arc → Nat → List Int → Int → Int → Int
  | [], _, _, n, g => g * q ^ n.toNat
  | a :: r, s, p, n, g => if s % 2 = 0 then wit q r (s / 2) p n g else if p.getD a.src.toNat 0 = p.getD a.dst.toNat 0 then wit q r (s / 2) p n (-g) else wit q r (s / 2) (wMrg (p.getD a.src.toNat 0) (p.getD a.dst.toNat 0) p) (n - 1) (-g)
def wsum (q : Int) : List Arc → List Int → Int → Int
  | [], _, n => q ^ n.toNat
  | a :: r, p, n => wsum q r p n - (if p.getD a.src.toNat 0 = p.getD a.dst.toNat 0 then wsum q r p n else wsum q r (wMrg (p.getD a.src.toNat 0) (p.getD a.dst.toNat 0) p) (n - 1))
def sumW (f : Nat → Int) : Nat → Int
  | 0 => 0
  | m + 1 => sumW f m + f m
theorem sumW_congr {f g : Nat → Int} : ∀ {m : Nat}, (∀ i, i < m → f i = g i) → sumW f m = sumW g m
  | 0, _ => rfl
  | m + 1, h => by rw [sumW, sumW, sumW_congr (m := m) fun i hi => h i (by omega), h m (by omega)]
theorem sumW_two (f : Nat → Int) : ∀ m : Nat, sumW f (2 * m) = sumW (fun i => f (2 * i) + f (2 * i + 1)) m
  | 0 => rfl
  | m + 1 => by
    rw [show 2 * (m + 1) = 2 * m + 1 + 1 by omega, sumW, sumW, sumW, sumW_two f m]; omega
theorem sumW_add (f g : Nat → Int) : ∀ m : Nat, sumW (fun i => f i + g i) m = sumW f m + sumW g m
  | 0 => rfl
  | m + 1 => by rw [sumW, sumW, sumW, sumW_add f g m]; omega
theorem wit_sum (q : Int) : ∀ (l : List Arc) (p : List Int) (n g : Int), sumW (fun s => wit q l s p n g) (2 ^ l.length) = g * wsum q l p n
  | [], p, n, g => by simp [sumW, wit, wsum]
  | a :: r, p, n, g => by
    have e1 : ∀ i : Nat, wit q (a :: r) (2 * i) p n g = wit q r i p n g := fun i => by
      rw [wit, if_pos (by omega), show 2 * i / 2 = i by omega]
    rw [List.length_cons, Nat.pow_succ, Nat.mul_comm, sumW_two, wsum]
    by_cases h : p.getD a.src.toNat 0 = p.getD a.dst.toNat 0
    · have e2 : ∀ i : Nat, wit q (a :: r) (2 * i + 1) p n g = wit q r i p n (-g) := fun i => by
        rw [wit, if_neg (by omega), if_pos h, show (2 * i + 1) / 2 = i by omega]
      rw [sumW_congr (fun i _ => show _ = wit q r i p n g + wit q r i p n (-g) by rw [e1, e2]), sumW_add, wit_sum q r p n g, wit_sum q r p n (-g), if_pos h, Int.neg_mul, Int.mul_sub]
      omega
    · have e2 : ∀ i : Nat, wit q (a :: r) (2 * i + 1) p n g = wit q r i (wMrg (p.getD a.src.toNat 0) (p.getD a.dst.toNat 0) p) (n - 1) (-g) := fun i => by
        rw [wit, if_neg (by omega), if_neg h, show (2 * i + 1) / 2 = i by omega]
      rw [sumW_congr (fun i _ => show _ = wit q r i p n g + wit q r i (wMrg (p.getD a.src.toNat 0) (p.getD a.dst.toNat 0) p) (n - 1) (-g) by rw [e1, e2]), sumW_add, wit_sum q r p n g, wit_sum q r _ (n - 1) (-g), if_neg h, Int.neg_mul, Int.mul_sub]
      omega
def Img (ph : Int → Int) : List Arc → List Arc → Prop
  | [], [] => True
  | a :: r, b :: s => b.src = ph a.src ∧ b.dst = ph a.dst ∧ Img ph r s
  | _, _ => False
theorem Img.map {ph f : Int → Int} (m : Arc → Arc) (hm : ∀ b, (m b).src = f b.src ∧ (m b).dst = f b.dst) : ∀ {l k : List Arc}, Img ph l k → Img (fun x => f (ph x)) l (k.map m)
  | [], [], _ => trivial
  | a :: r, b :: s, ⟨h1, h2, h3⟩ => ⟨by rw [(hm b).1, h1], by rw [(hm b).2, h2], Img.map m hm h3⟩
  | [], _ :: _, h => h.elim
  | _ :: _, [], h => h.elim
theorem Img.self : ∀ (l : List Arc), Img (fun x => x) l l
  | [] => trivial
  | a :: r => ⟨rfl, rfl, Img.self r⟩
theorem wMrg_get {x y : Int} {p : List Int} {i : Nat} (h : i < p.length) : (wMrg x y p).getD i 0 = if p.getD i 0 = y then x else p.getD i 0 := by
  rw [wMrg, List.getD_eq_getElem?_getD, List.getElem?_map, List.getD_eq_getElem?_getD, List.getElem?_eq_getElem h]; rfl
theorem mrgI_ends {n : Int} {b : Arc} (h0 : 0 ≤ b.src) (h1 : b.src < n) (h2 : 0 ≤ b.dst) (h3 : b.dst < n) (hne : b.src ≠ b.dst) : mrgI n b b.src = mrgI n b b.dst := by
  unfold mrgI; split <;> split <;> (try split) <;> omega
theorem wsum_cnt (q N : Int) (hN : N ≤ 8) : ∀ (l k : List Arc) (p : List Int) (n : Int) (ph : Int → Int), p.length = 8 → InR N l → Img ph l k → (∀ x, 0 ≤ x → x < N → 0 ≤ ph x ∧ ph x < n) → (∀ x y, 0 ≤ x → x < N → 0 ≤ y → y < N → (ph x = ph y ↔ p.getD x.toNat 0 = p.getD y.toNat 0)) → wsum q l p n = cnt q k.length n k
  | [], [], _, _, _, _, _, _, _, _ => rfl
  | [], _ :: _, _, _, _, _, _, h, _, _ => h.elim
  | _ :: _, [], _, _, _, _, _, h, _, _ => h.elim
  | a :: r, b :: s, p, n, ph, hp, hA, ⟨i1, i2, i3⟩, hr, hi => by
    obtain ⟨a1, a2, a3, a4⟩ := hA a List.mem_cons_self
    have hA2 : InR N r := fun c hc => hA c (List.mem_cons_of_mem _ hc)
    have r1 := hr a.src a1 a2
    have r2 := hr a.dst a3 a4
    have hab := hi a.src a.dst a1 a2 a3 a4
    rw [wsum, List.length_cons, cnt]
    by_cases h : p.getD a.src.toNat 0 = p.getD a.dst.toNat 0
    · rw [if_pos h, if_pos (by rw [i1, i2]; exact hab.2 h)]; omega
    · have hb : b.src ≠ b.dst := fun e => h (hab.1 (by rw [← i1, ← i2]; exact e))
      have b1 : 0 ≤ b.src := by omega
      have b2 : b.src < n := by omega
      have b3 : 0 ≤ b.dst := by omega
      have b4 : b.dst < n := by omega
      rw [if_neg h, if_neg hb, wsum_cnt q N hN r s p n ph hp hA2 i3 hr hi]
      have e := wsum_cnt q N hN r (s.map (mrg n b)) (wMrg (p.getD a.src.toNat 0) (p.getD a.dst.toNat 0) p) (n - 1) (fun x => mrgI n b (ph x)) (by rw [wMrg, List.length_map]; exact hp) hA2 (i3.map _ (fun c => ⟨rfl, rfl⟩)) (fun x x0 x1 => mrg_in b1 b2 b3 b4 hb (hr x x0 x1).1 (hr x x0 x1).2) (fun x y x0 x1 y0 y1 => by
        rw [wMrg_get (by omega), wMrg_get (by omega)]
        have hxy := hi x y x0 x1 y0 y1
        have hxs := hi x a.src x0 x1 a1 a2
        have hxd := hi x a.dst x0 x1 a3 a4
        have hys := hi y a.src y0 y1 a1 a2
        have hyd := hi y a.dst y0 y1 a3 a4
        have hme := mrgI_ends b1 b2 b3 b4 hb
        constructor
        · intro e
          rcases mrg_eq b1 b2 b3 b4 hb (hr x x0 x1).2 (hr y y0 y1).2 e with q | ⟨q1, q2⟩ | ⟨q1, q2⟩
          · rw [hxy.1 q]
          · rw [if_neg (by rw [hxs.1 (by rw [q1, i1])]; exact h), if_pos (hyd.1 (by rw [q2, i2])), hxs.1 (by rw [q1, i1])]
          · rw [if_pos (hxd.1 (by rw [q1, i2])), if_neg (by rw [hys.1 (by rw [q2, i1])]; exact h), hys.1 (by rw [q2, i1])]
        · intro e
          by_cases e1 : p.getD x.toNat 0 = p.getD a.dst.toNat 0
          · by_cases e2 : p.getD y.toNat 0 = p.getD a.dst.toNat 0
            · rw [hxy.2 (e1.trans e2.symm)]
            · rw [if_pos e1, if_neg e2] at e
              rw [hxd.2 e1, hys.2 e.symm, ← i1, ← i2]; exact hme.symm
          · by_cases e2 : p.getD y.toNat 0 = p.getD a.dst.toNat 0
            · rw [if_neg e1, if_pos e2] at e
              rw [hyd.2 e2, hxs.2 e, ← i1, ← i2]; exact hme
            · rw [if_neg e1, if_neg e2] at e
              rw [hxy.2 e])
      rw [List.length_map] at e
      rw [e]
section
variable {q m g X Y : Int} {es : List Arc} {p p2 : List Int} {k i j : Nat}
theorem wit_even (hk : k < es.length) (h : i / 2 ^ k % 2 = 0) : wit q (es.drop k) (i / 2 ^ k) p m g = wit q (es.drop (k + 1)) (i / 2 ^ (k + 1)) p m g := by
  rw [drop_getD es default k hk, wit, if_pos h, Nat.div_div_eq_div_mul, ← Nat.pow_succ]
theorem wit_same (hk : k < es.length) (h : i / 2 ^ k % 2 = 1) (e : p.getD (es.getD k default).src.toNat 0 = p.getD (es.getD k default).dst.toNat 0) : wit q (es.drop k) (i / 2 ^ k) p m g = wit q (es.drop (k + 1)) (i / 2 ^ (k + 1)) p m (-g) := by
  rw [drop_getD es default k hk, wit, if_neg (by omega), if_pos e, Nat.div_div_eq_div_mul, ← Nat.pow_succ]
theorem wit_diff (hk : k < es.length) (h : i / 2 ^ k % 2 = 1) (e : ¬ p.getD (es.getD k default).src.toNat 0 = p.getD (es.getD k default).dst.toNat 0) : wit q (es.drop k) (i / 2 ^ k) p m g = wit q (es.drop (k + 1)) (i / 2 ^ (k + 1)) (wMrg (p.getD (es.getD k default).src.toNat 0) (p.getD (es.getD k default).dst.toNat 0) p) (m - 1) (-g) := by
  rw [drop_getD es default k hk, wit, if_neg (by omega), if_neg e, Nat.div_div_eq_div_mul, ← Nat.pow_succ]
theorem part_yes (h : ∀ z : Nat, p2.getD z 0 = if z < j ∧ p.getD z 0 = Y then X else p.getD z 0) (hj : j < p2.length) (c : p2.getD j 0 = Y) : ∀ z : Nat, (p2.set j X).getD z 0 = if z < j + 1 ∧ p.getD z 0 = Y then X else p.getD z 0 := fun z => by
  have h1 := h j
  rw [if_neg (by omega)] at h1
  by_cases e : j = z
  · subst e; rw [getD_set_self _ _ _ _ hj, if_pos ⟨by omega, by rw [← h1]; exact c⟩]
  · rw [getD_set_ne _ _ _ _ _ e, h z]
    by_cases a : z < j ∧ p.getD z 0 = Y
    · rw [if_pos a, if_pos ⟨by omega, a.2⟩]
    · rw [if_neg a, if_neg (fun b => a ⟨by omega, b.2⟩)]
theorem part_no (h : ∀ z : Nat, p2.getD z 0 = if z < j ∧ p.getD z 0 = Y then X else p.getD z 0) (c : ¬ p2.getD j 0 = Y) : ∀ z : Nat, p2.getD z 0 = if z < j + 1 ∧ p.getD z 0 = Y then X else p.getD z 0 := fun z => by
  have h1 := h j
  rw [if_neg (by omega)] at h1
  rw [h z]
  by_cases e : j = z
  · subst e; rw [if_neg (by omega), if_neg (fun b => c (h1.trans b.2))]
  · by_cases a : z < j ∧ p.getD z 0 = Y
    · rw [if_pos a, if_pos ⟨by omega, a.2⟩]
    · rw [if_neg a, if_neg (fun b => a ⟨by omega, b.2⟩)]
theorem part_end (h1 : p.length = 8) (h2 : p2.length = 8) (hj : 8 ≤ j) (h : ∀ z : Nat, p2.getD z 0 = if z < j ∧ p.getD z 0 = Y then X else p.getD z 0) : p2 = wMrg X Y p := by
  refine list_ext 0 (by rw [wMrg, List.length_map, h1, h2]) (fun z hz => ?_)
  rw [h z, wMrg_get (by omega)]
  by_cases a : p.getD z 0 = Y
  · rw [if_pos ⟨by omega, a⟩, if_pos a]
  · rw [if_neg (fun b => a b.2), if_neg a]
end
def coloursOf (q n : Int) (es : List Arc) : Int := sumW (fun s => wit q es s [0, 1, 2, 3, 4, 5, 6, 7] n 1) (2 ^ es.length)
theorem coloursOf_cnt {q n : Int} {es : List Arc} (hn : n ≤ 8) (hA : InR n es) : coloursOf q n es = cnt q es.length n es := by
  rw [coloursOf, wit_sum, Int.one_mul]
  refine wsum_cnt q n hn es es _ n (fun x => x) rfl hA (Img.self es) (fun x h0 h1 => ⟨h0, h1⟩) (fun x y x0 x1 y0 y1 => ?_)
  have key : ∀ i : Nat, i < 8 → ([0, 1, 2, 3, 4, 5, 6, 7] : List Int).getD i 0 = (i : Int) := by decide
  rw [key _ (by omega), key _ (by omega), Int.toNat_of_nonneg x0, Int.toNat_of_nonneg y0]
end Go.Ab
