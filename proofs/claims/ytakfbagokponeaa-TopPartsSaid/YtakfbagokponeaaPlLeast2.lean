/- Of the least cut of a graph at all, with the arcs: the plain laws. -/
import Derived.Test.YtakfbagokponeaaPlLeast
namespace Go.Ab
def bet (g : Nat → Nat) (a b : Nat) : List Arc → Int
  | [] => 0
  | e :: r => (if (g e.src.toNat = a ∧ g e.dst.toNat = b) ∨ (g e.src.toNat = b ∧ g e.dst.toNat = a) then e.cap else 0) + bet g a b r
def crE (g : Nat → Nat) (p : Nat → Bool) (S : List Nat) (v : Nat) : List Arc → Int
  | [] => 0
  | e :: r => (if (g e.src.toNat = v ∧ g e.dst.toNat ∈ S ∧ p (g e.dst.toNat) ≠ p v) ∨ (g e.dst.toNat = v ∧ g e.src.toNat ∈ S ∧ p (g e.src.toNat) ≠ p v) then e.cap else 0) + crE g p S v r
def inn (g : Nat → Nat) (p : Nat → Bool) (S : List Nat) : List Arc → Int
  | [] => 0
  | e :: r => (if g e.src.toNat ∈ S ∧ g e.dst.toNat ∈ S ∧ p (g e.src.toNat) ≠ p (g e.dst.toNat) then e.cap else 0) + inn g p S r
theorem bet_comm (g : Nat → Nat) (a b : Nat) : ∀ es : List Arc, bet g a b es = bet g b a es
  | [] => rfl
  | e :: r => by
    simp only [bet, bet_comm g a b r]
    congr 1
    by_cases h1 : g e.src.toNat = a <;> by_cases h2 : g e.dst.toNat = b <;> by_cases h3 : g e.src.toNat = b <;> by_cases h4 : g e.dst.toNat = a <;> simp [h1, h2, h3, h4]
theorem bet_in (g : Nat → Nat) (a b : Nat) : ∀ {es : List Arc}, (∀ e ∈ es, 0 ≤ e.cap ∧ e.cap ≤ 10000) → 0 ≤ bet g a b es ∧ bet g a b es ≤ 10000 * (es.length : Int)
  | [], _ => by simp [bet]
  | e :: r, h => by
    have h1 := h e List.mem_cons_self
    have h2 := bet_in g a b (fun x hx => h x (List.mem_cons_of_mem _ hx))
    simp only [bet, List.length_cons]
    split <;> omega
theorem crE_cons {g : Nat → Nat} {p : Nat → Bool} {S : List Nat} {u v : Nat} (huS : u ∉ S) (huv : u ≠ v) : ∀ es : List Arc, (if p u = p v then 0 else bet g u v es) + crE g p S v es = crE g p (u :: S) v es
  | [] => by simp [bet, crE]
  | e :: r => by
    have ih := crE_cons (g := g) (p := p) huS huv r
    simp only [bet, crE, List.mem_cons]
    by_cases hp : p u = p v
    · rw [if_pos hp] at ih ⊢
      rw [← ih]
      have e1 : ((g e.src.toNat = v ∧ g e.dst.toNat ∈ S ∧ p (g e.dst.toNat) ≠ p v) ∨ (g e.dst.toNat = v ∧ g e.src.toNat ∈ S ∧ p (g e.src.toNat) ≠ p v)) ↔ ((g e.src.toNat = v ∧ (g e.dst.toNat = u ∨ g e.dst.toNat ∈ S) ∧ p (g e.dst.toNat) ≠ p v) ∨ (g e.dst.toNat = v ∧ (g e.src.toNat = u ∨ g e.src.toNat ∈ S) ∧ p (g e.src.toNat) ≠ p v)) := by
        constructor
        · rintro (⟨a, b, c⟩ | ⟨a, b, c⟩)
          · exact .inl ⟨a, .inr b, c⟩
          · exact .inr ⟨a, .inr b, c⟩
        · rintro (⟨a, b, c⟩ | ⟨a, b, c⟩)
          · rcases b with b | b
            · rw [b] at c; exact absurd hp c
            · exact .inl ⟨a, b, c⟩
          · rcases b with b | b
            · rw [b] at c; exact absurd hp c
            · exact .inr ⟨a, b, c⟩
      simp only [e1]
      omega
    · rw [if_neg hp] at ih ⊢
      rw [← ih]
      by_cases ha : (g e.src.toNat = u ∧ g e.dst.toNat = v) ∨ (g e.src.toNat = v ∧ g e.dst.toNat = u)
      · rw [if_pos ha]
        have e1 : ¬ ((g e.src.toNat = v ∧ g e.dst.toNat ∈ S ∧ p (g e.dst.toNat) ≠ p v) ∨ (g e.dst.toNat = v ∧ g e.src.toNat ∈ S ∧ p (g e.src.toNat) ≠ p v)) := by
          rintro (⟨a, b, c⟩ | ⟨a, b, c⟩)
          · rcases ha with ha | ha
            · exact huv (ha.1.symm.trans a)
            · rw [ha.2] at b; exact huS b
          · rcases ha with ha | ha
            · rw [ha.1] at b; exact huS b
            · exact huv (ha.2.symm.trans a)
        rw [if_neg e1, if_pos]
        · omega
        · rcases ha with ha | ha
          · exact .inr ⟨ha.2, .inl ha.1, by rw [ha.1]; exact hp⟩
          · exact .inl ⟨ha.1, .inl ha.2, by rw [ha.2]; exact hp⟩
      · rw [if_neg ha]
        have e1 : ((g e.src.toNat = v ∧ g e.dst.toNat ∈ S ∧ p (g e.dst.toNat) ≠ p v) ∨ (g e.dst.toNat = v ∧ g e.src.toNat ∈ S ∧ p (g e.src.toNat) ≠ p v)) ↔ ((g e.src.toNat = v ∧ (g e.dst.toNat = u ∨ g e.dst.toNat ∈ S) ∧ p (g e.dst.toNat) ≠ p v) ∨ (g e.dst.toNat = v ∧ (g e.src.toNat = u ∨ g e.src.toNat ∈ S) ∧ p (g e.src.toNat) ≠ p v)) := by
          constructor
          · rintro (⟨a, b, c⟩ | ⟨a, b, c⟩)
            · exact .inl ⟨a, .inr b, c⟩
            · exact .inr ⟨a, .inr b, c⟩
          · rintro (⟨a, b, c⟩ | ⟨a, b, c⟩)
            · rcases b with b | b
              · exact absurd (Or.inr ⟨a, b⟩) ha
              · exact .inl ⟨a, b, c⟩
            · rcases b with b | b
              · exact absurd (Or.inl ⟨b, a⟩) ha
              · exact .inr ⟨a, b, c⟩
        simp only [e1]
        omega
theorem crE_nil (g : Nat → Nat) (p : Nat → Bool) (v : Nat) : ∀ es : List Arc, crE g p [] v es = 0
  | [] => rfl
  | e :: r => by simp [crE, crE_nil g p v r]
theorem inn_nil (g : Nat → Nat) (p : Nat → Bool) : ∀ es : List Arc, inn g p [] es = 0
  | [] => rfl
  | e :: r => by simp [inn, inn_nil g p r]
theorem crs_bet {g : Nat → Nat} {W : Nat → Nat → Int} {p : Nat → Bool} {es : List Arc} {v : Nat} : ∀ {S : List Nat}, S.Nodup → v ∉ S → (∀ u ∈ S, W u v = bet g u v es) → crs W p S v = crE g p S v es
  | [], _, _, _ => (crE_nil g p v es).symm
  | u :: S, hn, hv, hW => by
    have hn' := List.nodup_cons.1 hn
    have h1 := crs_bet (p := p) hn'.2 (fun q => hv (List.mem_cons_of_mem _ q)) (fun x hx => hW x (List.mem_cons_of_mem _ hx))
    have h2 := crE_cons (g := g) (p := p) hn'.1 (show u ≠ v by rintro rfl; exact hv List.mem_cons_self) es
    simp only [crs, h1, hW u List.mem_cons_self, h2]
theorem inn_cons {g : Nat → Nat} {p : Nat → Bool} {S : List Nat} {v : Nat} (hv : v ∉ S) : ∀ es : List Arc, crE g p S v es + inn g p S es = inn g p (v :: S) es
  | [] => by simp [crE, inn]
  | e :: r => by
    have ih := inn_cons (g := g) (p := p) hv r
    simp only [crE, inn, List.mem_cons]
    rw [← ih]
    by_cases hs : g e.src.toNat = v
    · by_cases hd : g e.dst.toNat = v
      · simp [hs, hd, hv]
      · by_cases hm : g e.dst.toNat ∈ S
        · by_cases hp : p (g e.dst.toNat) = p v
          · simp [hs, hd, hv, hm, hp]
          · have hp' : ¬ p v = p (g e.dst.toNat) := fun q => hp q.symm
            simp [hs, hd, hv, hm, hp, hp']; omega
        · simp [hs, hd, hv, hm]
    · by_cases hd : g e.dst.toNat = v
      · by_cases hm : g e.src.toNat ∈ S
        · by_cases hp : p (g e.src.toNat) = p v
          · simp [hs, hd, hv, hm, hp]
          · simp [hs, hd, hv, hm, hp]; omega
        · simp [hs, hd, hv, hm]
      · simp [hs, hd]; omega
theorem ccs_bet {g : Nat → Nat} {W : Nat → Nat → Int} {p : Nat → Bool} {es : List Arc} : ∀ {S : List Nat}, S.Nodup → (∀ u v, u ∈ S → v ∈ S → u ≠ v → W u v = bet g u v es) → ccs W p S = inn g p S es
  | [], _, _ => (inn_nil g p es).symm
  | v :: S, hn, hW => by
    have hn' := List.nodup_cons.1 hn
    have h1 := ccs_bet (p := p) hn'.2 (fun u x hu hx => hW u x (List.mem_cons_of_mem _ hu) (List.mem_cons_of_mem _ hx))
    have h2 := crs_bet (g := g) (W := W) (p := p) (es := es) hn'.2 hn'.1 (fun u hu => hW u v (List.mem_cons_of_mem _ hu) List.mem_cons_self (by rintro rfl; exact hn'.1 hu))
    have h3 := inn_cons (g := g) (p := p) hn'.1 es
    simp only [ccs, h1, h2, h3]
theorem inn_all {g : Nat → Nat} {p : Nat → Bool} {S : List Nat} : ∀ {es : List Arc}, (∀ e ∈ es, g e.src.toNat ∈ S ∧ g e.dst.toNat ∈ S) → inn g p S es = cutP (fun v => p (g v)) es
  | [], _ => rfl
  | e :: r, h => by
    have h1 := h e List.mem_cons_self
    have h2 := inn_all (p := p) (fun x hx => h x (List.mem_cons_of_mem _ hx))
    simp only [inn, cutP, h1.1, h1.2, h2, true_and]
    by_cases hp : p (g e.src.toNat) = p (g e.dst.toNat) <;> simp [hp]
theorem ccs_zero {W : Nat → Nat → Int} {p : Nat → Bool} : ∀ {S : List Nat}, (∀ u ∈ S, p u = false) → ccs W p S = 0
  | [], _ => rfl
  | v :: S, h => by
    have h1 := ccs_zero (W := W) (fun u hu => h u (List.mem_cons_of_mem _ hu))
    have h2 : ∀ {T : List Nat}, (∀ u ∈ T, p u = false) → crs W p T v = 0 := by
      intro T
      induction T with
      | nil => intro _; rfl
      | cons t T ih => intro hT; simp only [crs]; rw [if_pos (by rw [hT t List.mem_cons_self, h v List.mem_cons_self]), ih (fun u hu => hT u (List.mem_cons_of_mem _ hu))]; rfl
    simp only [ccs, h1, h2 (fun u hu => h u (List.mem_cons_of_mem _ hu))]; rfl
theorem crs_full {W : Nat → Nat → Int} {l : Nat} : ∀ {S : List Nat}, l ∉ S → crs W (fun x => decide (x = l)) S l = hsum W S l
  | [], _ => rfl
  | v :: S, h => by
    have h1 := crs_full (W := W) (fun q => h (List.mem_cons_of_mem _ q))
    have hne : v ≠ l := by rintro rfl; exact h List.mem_cons_self
    simp only [crs, hsum, h1]
    rw [if_neg (by simp [hne])]
structure OrdEnd (n : Nat) (es : List Arc) (g : Nat → Nat) (N : List Int) (l a c : Int) : Prop where
  ml : l ∈ N
  ma : a ∈ N
  ne : l ≠ a
  cut : c = cutP (fun v => decide (g v = l.toNat)) es
  low : ∀ p : Nat → Bool, p l.toNat ≠ p a.toNat → c ≤ cutP (fun v => p (g v)) es
theorem Ord.end_ {n : Nat} {N : List Int} {W : Nat → Nat → Int} {hang : List Int} {done : List Bool} {S S' : List Nat} {l a : Nat} {es : List Arc} {g : Nat → Nat} (h : Ord N W hang done S)
    (hS : S = l :: a :: S') (hlen : N.length ≤ S.length) (hW : ∀ u v : Nat, (u : Int) ∈ N → (v : Int) ∈ N → u ≠ v → W u v = bet g u v es) (hg : ∀ v, v < n → ((g v : Nat) : Int) ∈ N) (hA : ∀ e ∈ es, e.src.toNat < n ∧ e.dst.toNat < n) :
    OrdEnd n es g N (l : Int) (a : Int) (hang.getD l 0) := by
  have hnd := h.nd
  have hWS : ∀ u v, u ∈ S → v ∈ S → u ≠ v → W u v = bet g u v es := fun u v hu hv hne => hW u v (h.mem u hu) (h.mem v hv) hne
  have hcov : ∀ e ∈ es, g e.src.toNat ∈ S ∧ g e.dst.toNat ∈ S := by
    have key : ∀ v, v < n → g v ∈ S := fun v hv => by
      have h1 := nodup_all (l := S.map fun (v : Nat) => (v : Int)) (m := N) (by
        refine List.Pairwise.map _ (fun a b hab => ?_) h.nd
        omega) (fun x hx => by
        obtain ⟨y, hy, rfl⟩ := List.mem_map.1 hx
        exact h.mem y hy) (by rw [List.length_map]; exact hlen) (hg v hv)
      obtain ⟨y, hy, e⟩ := List.mem_map.1 h1
      have : y = g v := by omega
      rw [← this]; exact hy
    exact fun e he => ⟨key _ (hA e he).1, key _ (hA e he).2⟩
  have htot : ∀ p : Nat → Bool, ccs W p S = cutP (fun v => p (g v)) es := fun p => by
    rw [ccs_bet h.nd hWS, inn_all hcov]
  have hne : l ≠ a := by
    rintro rfl
    rw [hS] at hnd
    exact (List.nodup_cons.1 hnd).1 List.mem_cons_self
  have hlS : l ∉ a :: S' := by
    rw [hS] at hnd
    exact (List.nodup_cons.1 hnd).1
  refine ⟨h.mem l (by rw [hS]; exact List.mem_cons_self), h.mem a (by rw [hS]; simp), by omega, ?_, fun p hp => ?_⟩
  · have h1 := htot (fun x => decide (x = l))
    rw [h.last l (a :: S') hS]
    rw [Int.toNat_natCast, ← h1, hS]
    show _ = crs W _ (a :: S') l + ccs W _ (a :: S')
    rw [crs_full hlS, ccs_zero (fun u hu => by simp; rintro rfl; exact hlS hu)]
    omega
  · rw [← htot p]
    exact h.F p l a S' hS (by simpa using hp)
theorem bet_snoc (g : Nat → Nat) (a b : Nat) (e : Arc) : ∀ es : List Arc, bet g a b (es ++ [e]) = bet g a b es + bet g a b [e]
  | [] => by simp [bet]
  | x :: r => by
    have := bet_snoc g a b e r
    simp only [List.cons_append, bet] at this ⊢
    omega
theorem bet_away {g : Nat → Nat} {l a x y : Nat} (hxa : x ≠ a) (hxl : x ≠ l) (hya : y ≠ a) (hyl : y ≠ l) : ∀ es : List Arc, bet (fun v => if g v = l then a else g v) x y es = bet g x y es
  | [] => rfl
  | e :: r => by
    have h1 := bet_away (g := g) hxa hxl hya hyl r
    simp only [bet, h1]
    congr 1
    by_cases k1 : g e.src.toNat = l <;> by_cases k2 : g e.dst.toNat = l <;> simp [k1, k2, Ne.symm hxa, Ne.symm hxl, Ne.symm hya, Ne.symm hyl]
theorem bet_merge {g : Nat → Nat} {l a y : Nat} (hal : a ≠ l) (hya : y ≠ a) (hyl : y ≠ l) : ∀ es : List Arc, bet (fun v => if g v = l then a else g v) a y es = bet g a y es + bet g l y es
  | [] => rfl
  | e :: r => by
    have h1 := bet_merge (g := g) hal hya hyl r
    simp only [bet, h1]
    by_cases k1 : g e.src.toNat = l <;> by_cases k2 : g e.dst.toNat = l <;> by_cases k3 : g e.src.toNat = a <;> by_cases k4 : g e.dst.toNat = a <;> by_cases k5 : g e.src.toNat = y <;> by_cases k6 : g e.dst.toNat = y <;> simp_all <;> omega
theorem cutP_nonneg {p : Nat → Bool} : ∀ {es : List Arc}, (∀ a ∈ es, 0 ≤ a.cap) → 0 ≤ cutP p es
  | [], _ => by simp [cutP]
  | a :: r, h => by
    have h1 := h a List.mem_cons_self
    have h2 := cutP_nonneg (p := p) (fun b hb => h b (List.mem_cons_of_mem _ hb))
    simp only [cutP]
    split <;> omega
theorem cutP_le {p : Nat → Bool} : ∀ {es : List Arc}, (∀ a ∈ es, 0 ≤ a.cap ∧ a.cap ≤ 10000) → cutP p es ≤ 10000 * (es.length : Int)
  | [], _ => by simp [cutP]
  | a :: r, h => by
    have h1 := h a List.mem_cons_self
    have h2 := cutP_le (p := p) (fun b hb => h b (List.mem_cons_of_mem _ hb))
    simp only [cutP, List.length_cons]
    split <;> omega
structure Sd (n : Int) (es : List Arc) (side value : Int) : Prop where
  s0 : 0 ≤ side
  lt : ∀ v, n.toNat ≤ v → has side v = false
  cut : cutP (has side) es = value
  yes : ∃ u, u < n.toNat ∧ has side u = true
  no : ∃ u, u < n.toNat ∧ has side u = false
def mat12 (M : List Int) (x y : Nat) : Int := M.getD (y + x * 12) 0
structure SW (n : Int) (es : List Arc) (M G N : List Int) (g : Nat → Nat) (side value : Int) : Prop where
  ml : M.length = 144
  gl : G.length = 12
  nn : N.Nodup
  nr : ∀ x ∈ N, 0 ≤ x ∧ x < n
  gm : ∀ v, v < n.toNat → ((g v : Nat) : Int) ∈ N
  gf : ∀ x : Nat, (x : Int) ∈ N → g x = x
  grp : ∀ x : Nat, (x : Int) ∈ N → 0 ≤ G.getD x 0 ∧ ∀ v, has (G.getD x 0) v = decide (v < n.toNat ∧ g v = x)
  w : ∀ a b : Nat, (a : Int) ∈ N → (b : Int) ∈ N → a ≠ b → mat12 M a b = bet g a b es
  wd : ∀ a : Nat, (a : Int) ∈ N → mat12 M a a = 0
  cuts : ∀ p : Nat → Bool, (∃ u, u < n.toNat ∧ p u = true) → (∃ u, u < n.toNat ∧ p u = false) → (0 ≤ value ∧ value ≤ cutP p es) ∨ ∀ v, v < n.toNat → p v = p (g v)
  val : (value = -1 ∧ side = 0) ∨ (0 ≤ value ∧ Sd n es side value)
theorem SW.entry {n : Int} {es : List Arc} {M G N : List Int} {g : Nat → Nat} {side value : Int} (h : SW n es M G N g side value) (hG : GOk n es 0) (a b : Nat) (ha : (a : Int) ∈ N) (hb : (b : Int) ∈ N) : 0 ≤ mat12 M a b ∧ mat12 M a b ≤ 600000 := by
  have hl := hG.len
  by_cases e : a = b
  · subst e; rw [h.wd a ha]; omega
  · rw [h.w a b ha hb e]
    have := bet_in g a b (fun e he => by obtain ⟨_, _, _, _, q1, q2⟩ := hG.arc e he; exact (⟨q1, q2⟩ : 0 ≤ e.cap ∧ e.cap ≤ 10000))
    omega
theorem SW.g16 {n : Int} {es : List Arc} {M G N : List Int} {g : Nat → Nat} {side value : Int} (h : SW n es M G N g side value) (hG : GOk n es 0) {x : Int} (hx : x ∈ N) : 0 ≤ G.getD x.toNat 0 ∧ G.getD x.toNat 0 ≤ 65535 := by
  have hr := h.nr x hx
  obtain ⟨h1, h2⟩ := h.grp x.toNat (by rw [Int.toNat_of_nonneg hr.1]; exact hx)
  have h3 : G.getD x.toNat 0 < ((2 ^ n.toNat : Nat) : Int) := lt_has h1 fun v hv => by rw [h2]; simp; omega
  have h4 := pow_le12 (n := n.toNat) (by have := hG.n2; omega)
  omega
def Merged (N M : List Int) (l a : Nat) (j : Nat) (M2 : List Int) : Prop :=
  M2.length = 144 ∧ ∀ x y : Nat, x < 12 → y < 12 → mat12 M2 x y =
    if x = a ∧ y ≠ l ∧ (y : Int) ∈ N.take j then mat12 M a y + mat12 M l y else if y = a ∧ x ≠ l ∧ (x : Int) ∈ N.take j then mat12 M a x + mat12 M l x else mat12 M x y
theorem mat12_set {M : List Int} (hM : M.length = 144) {x y u v : Nat} (hx : x < 12) (hy : y < 12) (hu : u < 12) (hv : v < 12) (z : Int) : mat12 (M.set (v + u * 12) z) x y = if x = u ∧ y = v then z else mat12 M x y := by
  unfold mat12
  by_cases e : x = u ∧ y = v
  · rw [if_pos e, e.1, e.2, getD_set_self _ _ _ _ (by omega)]
  · rw [if_neg e, getD_set_ne _ _ _ _ _ (by omega)]
theorem Merged.start {N M : List Int} {l a : Nat} (h : M.length = 144) : Merged N M l a 0 M := ⟨h, fun x y _ _ => by simp⟩
theorem Merged.skip {N M M2 : List Int} {l a j : Nat} (h : Merged N M l a j M2) (hj : j < N.length) (he : N.getD j 0 = (l : Int)) : Merged N M l a (j + 1) M2 := by
  refine ⟨h.1, fun x y hx hy => ?_⟩
  rw [h.2 x y hx hy, take_getD N 0 j hj, he]
  have e1 : ∀ z : Nat, (z ≠ l ∧ (z : Int) ∈ List.take j N) ↔ (z ≠ l ∧ (z : Int) ∈ List.take j N ++ [(l : Int)]) := fun z => by
    constructor
    · rintro ⟨q1, q2⟩; exact ⟨q1, List.mem_append_left _ q2⟩
    · rintro ⟨q1, q2⟩
      rcases List.mem_append.1 q2 with q2 | q2
      · exact ⟨q1, q2⟩
      · have := List.mem_singleton.1 q2; omega
  simp only [e1]
theorem Merged.row {N M M2 : List Int} {l a j : Nat} (h : Merged N M l a j M2) (ha : a < 12) (hl : l < 12) (hal : a ≠ l) {y : Nat} (hy : y < 12) (hyN : (y : Int) ∉ N.take j) : mat12 M2 l y = mat12 M l y ∧ mat12 M2 a y = if y = a then mat12 M a a else mat12 M a y := by
  constructor
  · rw [h.2 l y hl hy, if_neg (by omega)]
    by_cases e : y = a ∧ l ≠ l ∧ (l : Int) ∈ List.take j N
    · exact absurd rfl e.2.1
    · rw [if_neg e]
  · rw [h.2 a y ha hy, if_neg (fun q => hyN q.2.2)]
    by_cases e : y = a
    · rw [if_pos e]
      subst e
      rw [if_neg (fun q => hyN q.2.2)]
    · rw [if_neg (fun q => e q.1), if_neg e]
theorem Merged.take {N M M2 : List Int} {l a j k : Nat} (h : Merged N M l a j M2) (hn : N.Nodup) (ha : a < 12) (hl : l < 12) (hal : a ≠ l) (hk : k < 12) (hj : j < N.length) (he : N.getD j 0 = (k : Int)) (hkl : k ≠ l) {z : Int} (hz : z = mat12 M2 a k + mat12 M2 l k) :
    Merged N M l a (j + 1) ((M2.set (k + a * 12) z).set (a + k * 12) z) := by
  have hkN : (k : Int) ∉ N.take j := fun hm => by
    obtain ⟨i, hi, e⟩ := mem_getD 0 hm
    rw [List.length_take] at hi
    rw [getD_lt _ _ _ (by rw [List.length_take]; omega), List.getElem_take] at e
    rw [getD_lt _ _ _ hj] at he
    exact List.pairwise_iff_getElem.1 hn i j (by omega) hj (by omega) (e.trans he.symm)
  obtain ⟨r1, r2⟩ := h.row ha hl hal hk hkN
  have hz2 : z = mat12 M a k + mat12 M l k := by
    rw [hz, r1, r2]
    split
    · rename_i e; rw [e]
    · rfl
  refine ⟨by rw [List.length_set, List.length_set]; exact h.1, fun x y hx hy => ?_⟩
  rw [mat12_set (by rw [List.length_set]; exact h.1) hx hy hk ha, mat12_set h.1 hx hy ha hk, h.2 x y hx hy, take_getD N 0 j hj, he]
  have e1 : ∀ w : Nat, (w : Int) ∈ List.take j N ++ [(k : Int)] ↔ (w : Int) ∈ List.take j N ∨ w = k := fun w => by
    rw [List.mem_append, List.mem_singleton]
    exact or_congr Iff.rfl (by omega)
  simp only [e1]
  by_cases c1 : x = k ∧ y = a
  · rw [if_pos c1]
    by_cases c2 : x = a
    · have hka : k = a := by omega
      rw [if_pos ⟨c2, by omega, .inr (by omega)⟩, hz2, c1.2, hka]
    · rw [if_neg (fun q => c2 q.1), if_pos ⟨c1.2, by omega, .inr c1.1⟩, hz2, c1.1]
  · rw [if_neg c1]
    by_cases c2 : x = a ∧ y = k
    · rw [if_pos c2, if_pos ⟨c2.1, by omega, .inr c2.2⟩, hz2, c2.2]
    · rw [if_neg c2]
      have e2 : (x = a ∧ y ≠ l ∧ ((y : Int) ∈ List.take j N ∨ y = k)) ↔ (x = a ∧ y ≠ l ∧ (y : Int) ∈ List.take j N) := by
        constructor
        · rintro ⟨q1, q2, q3 | q3⟩
          · exact ⟨q1, q2, q3⟩
          · exact absurd ⟨q1, q3⟩ c2
        · rintro ⟨q1, q2, q3⟩; exact ⟨q1, q2, .inl q3⟩
      have e3 : (y = a ∧ x ≠ l ∧ ((x : Int) ∈ List.take j N ∨ x = k)) ↔ (y = a ∧ x ≠ l ∧ (x : Int) ∈ List.take j N) := by
        constructor
        · rintro ⟨q1, q2, q3 | q3⟩
          · exact ⟨q1, q2, q3⟩
          · exact absurd ⟨q3, q1⟩ c1
        · rintro ⟨q1, q2, q3⟩; exact ⟨q1, q2, .inl q3⟩
      simp only [e2, e3]
theorem SW.step {n : Int} {es : List Arc} {M M2 G N : List Int} {g : Nat → Nat} {side value : Int} (h : SW n es M G N g side value) (hG : GOk n es 0) {l a : Nat} {c s2 v2 : Int} (he : OrdEnd n.toNat es g N (l : Int) (a : Int) c)
    (hM : Merged N M l a N.length M2) (hb : (v2 = c ∧ s2 = G.getD l 0 ∧ (value < 0 ∨ c < value)) ∨ (v2 = value ∧ s2 = side ∧ 0 ≤ value ∧ value ≤ c)) :
    SW n es (M2.set (a + a * 12) 0) (G.set a (ior (G.getD a 0) (G.getD l 0))) (N.filter fun x => decide (x ≠ (l : Int))) (fun v => if g v = l then a else g v) s2 v2 := by
  have hl := h.nr _ he.ml
  have ha := h.nr _ he.ma
  have hne : l ≠ a := by have := he.ne; omega
  have hn2 := hG.n2
  have hmem : ∀ x : Int, x ∈ N.filter (fun x => decide (x ≠ (l : Int))) ↔ x ∈ N ∧ x ≠ (l : Int) := fun x => by rw [List.mem_filter]; simp
  have hcpos : 0 ≤ c := by rw [he.cut]; exact cutP_nonneg fun x hx => (hG.arc x hx).2.2.2.2.1
  have hMt : ∀ x y : Nat, x < 12 → y < 12 → mat12 (M2.set (a + a * 12) 0) x y = if x = a ∧ y = a then 0 else if x = a ∧ y ≠ l ∧ (y : Int) ∈ N then mat12 M a y + mat12 M l y else if y = a ∧ x ≠ l ∧ (x : Int) ∈ N then mat12 M a x + mat12 M l x else mat12 M x y := fun x y hx hy => by
    rw [mat12_set hM.1 hx hy (by omega) (by omega), hM.2 x y hx hy, List.take_length]
  have hlt : ∀ x : Nat, (x : Int) ∈ N → x < 12 := fun x hx => by have := h.nr _ hx; omega
  have hgl : g l = l := h.gf l he.ml
  have hga : g a = a := h.gf a he.ma
  refine ⟨by rw [List.length_set]; exact hM.1, by rw [List.length_set]; exact h.gl, h.nn.filter _, fun x hx => h.nr x ((hmem x).1 hx).1, fun v hv => ?_, fun x hx => ?_, fun x hx => ?_, fun x y hx hy hxy => ?_, fun x hx => ?_, fun p hp1 hp2 => ?_, ?_⟩
  · have := h.gm v hv
    rw [hmem]
    by_cases e : g v = l
    · simp only [if_pos e]; exact ⟨he.ma, by omega⟩
    · simp only [if_neg e]; exact ⟨this, by omega⟩
  · have hx := (hmem _).1 hx
    have := h.gf x hx.1
    simp only [this]
    rw [if_neg (by omega)]
  · have hx := (hmem _).1 hx
    have hxl : x ≠ l := by omega
    by_cases e : x = a
    · subst e
      rw [getD_set_self _ _ _ _ (by rw [h.gl]; omega)]
      refine ⟨ior0 _ _, fun v => ?_⟩
      rw [has_ior, (h.grp x hx.1).2, (h.grp l he.ml).2]
      by_cases e2 : g v = l
      · have : ¬ g v = x := by omega
        simp [e2, this, Ne.symm hxl]
      · simp [e2]
    · rw [getD_set_ne _ _ _ _ _ (Ne.symm e)]
      refine ⟨(h.grp x hx.1).1, fun v => ?_⟩
      rw [(h.grp x hx.1).2]
      by_cases e2 : g v = l
      · have h3 : ¬ g v = x := by omega
        simp [e2, Ne.symm e, Ne.symm hxl]
      · simp [e2]
  · have hx := (hmem _).1 hx
    have hy := (hmem _).1 hy
    rw [hMt x y (hlt x hx.1) (hlt y hy.1), if_neg (by omega)]
    by_cases e : x = a
    · subst e
      rw [if_pos ⟨rfl, by omega, hy.1⟩, bet_merge (Ne.symm hne) (Ne.symm hxy) (by omega), h.w x y hx.1 hy.1 hxy, h.w l y he.ml hy.1 (by omega)]
    · rw [if_neg (fun q => e q.1)]
      by_cases e2 : y = a
      · subst e2
        rw [if_pos ⟨rfl, by omega, hx.1⟩, bet_comm, bet_merge (Ne.symm hne) e (by omega), h.w y x hy.1 hx.1 (Ne.symm hxy), h.w l x he.ml hx.1 (by omega)]
      · rw [if_neg (fun q => e2 q.1), bet_away e (by omega) e2 (by omega), h.w x y hx.1 hy.1 hxy]
  · have hx := (hmem _).1 hx
    rw [hMt x x (hlt x hx.1) (hlt x hx.1)]
    by_cases e : x = a
    · rw [if_pos ⟨e, e⟩]
    · rw [if_neg (fun q => e q.1), if_neg (fun q => e q.1), if_neg (fun q => e q.1), h.wd x hx.1]
  · rcases h.cuts p hp1 hp2 with q | q
    · left; omega
    · by_cases e : p l = p a
      · right
        intro v hv
        by_cases e2 : g v = l
        · simp only [if_pos e2]; rw [q v hv, e2, e]
        · simp only [if_neg e2]; exact q v hv
      · left
        have h1 := he.low p e
        rw [cutP_congr (q := p) (fun x hx => by
          obtain ⟨q1, q2, q3, q4, _⟩ := hG.arc x hx
          exact ⟨(q _ (by omega)).symm, (q _ (by omega)).symm⟩)] at h1
        omega
  · rcases hb with ⟨b1, b2, b3⟩ | ⟨b1, b2, b3, b4⟩
    · right
      rw [b1, b2]
      obtain ⟨g1, g2⟩ := h.grp l he.ml
      refine ⟨hcpos, g1, fun v hv => by rw [g2]; simp; omega, ?_, ⟨l, by omega, by rw [g2]; simp [hgl]; omega⟩, ⟨a, by omega, by rw [g2]; simp [hga]; omega⟩⟩
      rw [he.cut]
      refine cutP_congr fun x hx => ?_
      obtain ⟨q1, q2, q3, q4, _⟩ := hG.arc x hx
      have e1 : x.src.toNat < n.toNat := by omega
      have e2 : x.dst.toNat < n.toNat := by omega
      rw [g2, g2]
      simp [e1, e2]
    · rw [b1, b2]
      rcases h.val with q | q
      · omega
      · exact .inr q
theorem SW.end_ {n : Int} {es : List Arc} {M G N : List Int} {g : Nat → Nat} {side value : Int} (h : SW n es M G N g side value) (h2 : 2 ≤ n) (hN : N.length ≤ 1) :
    Sd n es side value ∧ 0 ≤ value ∧ ∀ p : Nat → Bool, (∃ u, u < n.toNat ∧ p u = true) → (∃ u, u < n.toNat ∧ p u = false) → value ≤ cutP p es := by
  have hone : ∀ u v, u < n.toNat → v < n.toNat → g u = g v := fun u v hu hv => by
    have a := h.gm u hu
    have b := h.gm v hv
    match N, hN, a, b with
    | [x], _, a, b => have := List.mem_singleton.1 a; have := List.mem_singleton.1 b; omega
  have hlow : ∀ p : Nat → Bool, (∃ u, u < n.toNat ∧ p u = true) → (∃ u, u < n.toNat ∧ p u = false) → 0 ≤ value ∧ value ≤ cutP p es := fun p hp1 hp2 => by
    rcases h.cuts p hp1 hp2 with q | q
    · exact q
    · obtain ⟨u, u1, u2⟩ := hp1
      obtain ⟨v, v1, v2⟩ := hp2
      rw [q u u1, hone u v u1 v1, ← q v v1, v2] at u2
      cases u2
  have h0 := hlow (fun v => decide (v = 0)) ⟨0, by omega, by simp⟩ ⟨1, by omega, by simp⟩
  refine ⟨?_, h0.1, fun p hp1 hp2 => (hlow p hp1 hp2).2⟩
  rcases h.val with q | q
  · omega
  · exact q.2
theorem Sd.other {n : Int} {es : List Arc} {side value : Int} (h : Sd n es side value) (hG : GOk n es 0) : Sd n es (iandn (1 * 2 ^ n.toNat - 1) side) value ∧ has (iandn (1 * 2 ^ n.toNat - 1) side) 0 = !has side 0 := by
  have hh : ∀ v, has (iandn (1 * 2 ^ n.toNat - 1) side) v = (decide (v < n.toNat) && !has side v) := fun v => by rw [has_iandn, has_mask]
  have hn := hG.n1
  refine ⟨⟨iandn0 _ _, fun v hv => by rw [hh]; simp; omega, ?_, ?_, ?_⟩, by rw [hh]; simp; omega⟩
  · rw [← h.cut, ← cutP_not (has side)]
    refine cutP_congr fun x hx => ?_
    obtain ⟨q1, q2, q3, q4, _⟩ := hG.arc x hx
    rw [hh, hh]
    have e1 : x.src.toNat < n.toNat := by omega
    have e2 : x.dst.toNat < n.toNat := by omega
    simp [e1, e2]
  · obtain ⟨u, u1, u2⟩ := h.no
    exact ⟨u, u1, by rw [hh, u2]; simp [u1]⟩
  · obtain ⟨u, u1, u2⟩ := h.yes
    exact ⟨u, u1, by rw [hh, u2]; simp⟩
def Lst : List Nat → Int → Int → Prop
  | [], l, _ => l = -1
  | [x], l, _ => l = (x : Int)
  | x :: y :: _, l, a => l = (x : Int) ∧ a = (y : Int)
theorem Lst.step {S : List Nat} {l a b : Int} (h : Lst S l a) (hb : 0 ≤ b) : Lst (b.toNat :: S) b l := by
  match S, h with
  | [], _ => show b = _; omega
  | [x], h => exact ⟨by omega, h⟩
  | x :: y :: r, h => exact ⟨by omega, h.1⟩
theorem Lst.end_ {S : List Nat} {l a : Int} (h : Lst S l a) (h2 : 2 ≤ S.length) : ∃ x y S', S = x :: y :: S' ∧ l = (x : Int) ∧ a = (y : Int) := by
  match S, h, h2 with
  | [], _, h2 => simp at h2
  | [x], _, h2 => simp at h2
  | x :: y :: r, h, _ => exact ⟨x, y, r, rfl, h.1, h.2⟩
def OrdOut (N M : List Int) (l a c : Int) : Prop := ∃ (hang : List Int) (done : List Bool) (S S' : List Nat) (l' a' : Nat), Ord N (mat12 M) hang done S ∧ S = l' :: a' :: S' ∧ N.length ≤ S.length ∧ l = (l' : Int) ∧ a = (a' : Int) ∧ c = hang.getD l' 0
theorem OrdOut.end_ {n : Int} {es : List Arc} {M G N : List Int} {g : Nat → Nat} {side value l a c : Int} (h : OrdOut N M l a c) (hW : SW n es M G N g side value) (hG : GOk n es 0) : OrdEnd n.toNat es g N ((l.toNat : Nat) : Int) ((a.toNat : Nat) : Int) c := by
  obtain ⟨hang, done, S, S', l', a', h1, h2, h3, rfl, rfl, rfl⟩ := h
  simp only [Int.toNat_natCast]
  exact h1.end_ h2 h3 hW.w hW.gm (fun e he => by obtain ⟨q1, q2, q3, q4, _⟩ := hG.arc e he; omega)
theorem nodes_len {N : List Int} (hn : N.Nodup) (hr : ∀ x ∈ N, 0 ≤ x ∧ x < 12) : N.length ≤ 12 := by
  have := nodup_len (l := N) (m := (List.range 12).map fun (v : Nat) => (v : Int)) hn (fun x hx => by
    have := hr x hx
    exact List.mem_map.2 ⟨x.toNat, List.mem_range.2 (by omega), by omega⟩)
  simpa using this
theorem SW.s16 {n : Int} {es : List Arc} {M G N : List Int} {g : Nat → Nat} {side value : Int} (h : SW n es M G N g side value) (hG : GOk n es 0) : 0 ≤ side ∧ side ≤ 65535 ∧ -1 ≤ value ∧ value ≤ 600000 := by
  rcases h.val with q | q
  · omega
  · have h1 := lt_has q.2.s0 q.2.lt
    have h2 := pow_le12 (n := n.toNat) (by have := hG.n2; omega)
    have h3 := cutP_le (p := has side) (fun e he => by obtain ⟨_, _, _, _, q1, q2⟩ := hG.arc e he; exact (⟨q1, q2⟩ : 0 ≤ e.cap ∧ e.cap ≤ 10000))
    have h4 := hG.len
    rw [q.2.cut] at h3
    have := q.2.s0
    omega
def nodesTo (k : Nat) : List Int := (List.range k).map fun (j : Nat) => (j : Int)
theorem nodesTo_succ (k : Nat) : nodesTo (k + 1) = nodesTo k ++ [(k : Int)] := by simp [nodesTo, List.range_succ]
theorem mem_nodesTo {k : Nat} {x : Int} : x ∈ nodesTo k ↔ 0 ≤ x ∧ x < k := by
  unfold nodesTo
  rw [List.mem_map]
  constructor
  · rintro ⟨j, h1, rfl⟩; have := List.mem_range.1 h1; omega
  · intro h; exact ⟨x.toNat, List.mem_range.2 (by omega), by omega⟩
def WIn (es : List Arc) (i : Nat) (M : List Int) : Prop := M.length = 144 ∧ ∀ x y : Nat, x < 12 → y < 12 → mat12 M x y = if x = y then 0 else bet (fun v => v) x y (es.take i)
theorem WIn.start {es : List Arc} : WIn es 0 (List.replicate 144 0) := ⟨by simp, fun x y _ _ => by unfold mat12; rw [getD_zeros]; simp [bet]⟩
theorem WIn.bound {es : List Arc} {n : Int} {i : Nat} {M : List Int} (h : WIn es i M) (hG : GOk n es 0) {x y : Nat} (hx : x < 12) (hy : y < 12) : 0 ≤ M.getD (y + x * 12) 0 ∧ M.getD (y + x * 12) 0 ≤ 600000 := by
  have h1 := h.2 x y hx hy
  unfold mat12 at h1
  rw [h1]
  split
  · omega
  · have := bet_in (fun v => v) x y (es := es.take i) (fun e he => by obtain ⟨_, _, _, _, q1, q2⟩ := hG.arc e (List.mem_of_mem_take he); exact (⟨q1, q2⟩ : 0 ≤ e.cap ∧ e.cap ≤ 10000))
    have h2 := hG.len
    rw [List.length_take] at this
    omega
theorem WIn.skip {es : List Arc} {n : Int} {i : Nat} {M : List Int} (h : WIn es i M) (_hG : GOk n es 0) (hi : i < es.length) (he : (es.getD i default).src = (es.getD i default).dst) : WIn es (i + 1) M := by
  refine ⟨h.1, fun x y hx hy => ?_⟩
  rw [h.2 x y hx hy, take_getD es default i hi, bet_snoc]
  split
  · rfl
  · simp only [bet, he]
    rw [if_neg (by omega)]
    omega
theorem WIn.take {es : List Arc} {n : Int} {i : Nat} {M : List Int} (h : WIn es i M) (hG : GOk n es 0) (hi : i < es.length) (he : (es.getD i default).src ≠ (es.getD i default).dst) :
    WIn es (i + 1) ((M.set ((es.getD i default).dst.toNat + (es.getD i default).src.toNat * 12) (M.getD ((es.getD i default).dst.toNat + (es.getD i default).src.toNat * 12) 0 + (es.getD i default).cap)).set ((es.getD i default).src.toNat + (es.getD i default).dst.toNat * 12)
      ((M.set ((es.getD i default).dst.toNat + (es.getD i default).src.toNat * 12) (M.getD ((es.getD i default).dst.toNat + (es.getD i default).src.toNat * 12) 0 + (es.getD i default).cap)).getD ((es.getD i default).src.toNat + (es.getD i default).dst.toNat * 12) 0 + (es.getD i default).cap)) := by
  obtain ⟨a1, a2, a3, a4, a5, a6⟩ := hG.at_ hi
  have hn := hG.n2
  refine ⟨by rw [List.length_set, List.length_set]; exact h.1, fun x y hx hy => ?_⟩
  have e1 := h.2 (es.getD i default).src.toNat (es.getD i default).dst.toNat (by omega) (by omega)
  have e2 := h.2 (es.getD i default).dst.toNat (es.getD i default).src.toNat (by omega) (by omega)
  have e3 : (M.set ((es.getD i default).dst.toNat + (es.getD i default).src.toNat * 12) (M.getD ((es.getD i default).dst.toNat + (es.getD i default).src.toNat * 12) 0 + (es.getD i default).cap)).getD ((es.getD i default).src.toNat + (es.getD i default).dst.toNat * 12) 0 = mat12 M (es.getD i default).dst.toNat (es.getD i default).src.toNat := by
    rw [getD_set_ne _ _ _ _ _ (by omega)]; rfl
  rw [e3, mat12_set (by rw [List.length_set]; exact h.1) hx hy (by omega) (by omega), mat12_set h.1 hx hy (by omega) (by omega), h.2 x y hx hy, take_getD es default i hi, bet_snoc]
  rw [if_neg (by omega)] at e1 e2
  unfold mat12 at e1
  rw [e2, e1]
  simp only [bet]
  by_cases c1 : x = (es.getD i default).dst.toNat ∧ y = (es.getD i default).src.toNat
  · rw [if_pos c1, if_neg (by omega), c1.1, c1.2, if_pos (by omega)]; omega
  · rw [if_neg c1]
    by_cases c2 : x = (es.getD i default).src.toNat ∧ y = (es.getD i default).dst.toNat
    · rw [if_pos c2, if_neg (by omega), c2.1, c2.2, if_pos (by omega)]; omega
    · rw [if_neg c2]
      split
      · rfl
      · rw [if_neg (by omega)]; omega
theorem sw_start {n : Int} {es : List Arc} {M G : List Int} (hG : GOk n es 0) {i : Nat} (hi : es.length ≤ i) (hM : WIn es i M) (hl : G.length = 12) (hv : ∀ j, j < n.toNat → G.getD j 0 = 1 * 2 ^ j) : SW n es M G (nodesTo n.toNat) (fun v => v) 0 (-1) := by
  have hn := hG.n2
  have hm : ∀ x : Int, x ∈ nodesTo n.toNat ↔ 0 ≤ x ∧ x < n := fun x => by rw [mem_nodesTo]; have := hG.n1; omega
  have hMv := hM.2
  rw [List.take_of_length_le hi] at hMv
  refine ⟨hM.1, hl, ?_, fun x hx => (hm x).1 hx, fun v hv => (hm _).2 (by omega), fun x _ => rfl, fun x hx => ?_, fun a b ha hb hab => ?_, fun a ha => ?_, fun p _ _ => .inr fun v _ => rfl, .inl ⟨rfl, rfl⟩⟩
  · exact List.Pairwise.map _ (fun a b hab => by omega) List.nodup_range
  · have hx := (hm _).1 hx
    rw [hv x (by omega)]
    have hp := pw1 x
    refine ⟨by omega, fun v => ?_⟩
    rw [has_pow]
    by_cases e : x = v
    · simp [e]; omega
    · simp [e, Ne.symm e]
  · have ha := (hm _).1 ha
    have hb := (hm _).1 hb
    rw [hMv a b (by omega) (by omega), if_neg hab]
  · have ha := (hm _).1 ha
    rw [hMv a a (by omega) (by omega), if_pos rfl]
def LeastRes (n : Int) (es : List Arc) (side c e : Int) : Prop :=
  (pairErr n es ≠ 0 ∧ e = pairErr n es ∧ side = 0 ∧ c = 0) ∨ (pairErr n es = 0 ∧ n < 2 ∧ e = 5 ∧ side = 0 ∧ c = 0) ∨
  (pairErr n es = 0 ∧ 2 ≤ n ∧ e = 0 ∧ Sd n es side c ∧ has side 0 = false ∧ 0 ≤ c ∧ ∀ p : Nat → Bool, (∃ u, u < n.toNat ∧ p u = true) → (∃ u, u < n.toNat ∧ p u = false) → c ≤ cutP p es)
theorem bit0 {z : Int} (h : 0 ≤ z) : iand z 1 = 1 ↔ has z 0 = true := by
  have := bit_at (z := z) (k := 0) h
  simpa using this
theorem filt_yes {N : List Int} {l : Int} {j : Nat} (hj : j < N.length) (h : N.getD j 0 ≠ l) : (N.take j).filter (fun x => decide (x ≠ l)) ++ [N.getD j 0] = (N.take (j + 1)).filter (fun x => decide (x ≠ l)) := by
  rw [take_getD N 0 j hj, List.filter_append]
  congr 1
  revert h
  generalize N.getD j 0 = y
  intro h
  simp [h]
theorem filt_no {N : List Int} {l : Int} {j : Nat} (hj : j < N.length) (h : N.getD j 0 = l) : (N.take j).filter (fun x => decide (x ≠ l)) = (N.take (j + 1)).filter (fun x => decide (x ≠ l)) := by
  rw [take_getD N 0 j hj, List.filter_append]
  revert h
  generalize N.getD j 0 = y
  intro h
  simp [h]
structure AtI (n : Int) (es : List Arc) (s : Nat) (b : Int) : Prop where
  s2 : 2 ≤ s ∧ s % 2 = 0 ∧ s ≤ 4098
  b0 : -1 ≤ b
  at_ : (b = -1 ∧ s = 2) ∨ (0 ≤ b ∧ ∃ z : Nat, 2 ≤ z ∧ z % 2 = 0 ∧ z < 2 ^ n.toNat ∧ b = cutP (has (z : Int)) es)
  le : ∀ z : Nat, 2 ≤ z → z < s → z % 2 = 0 → b ≤ cutP (has (z : Int)) es
end Go.Ab
