/- The abstract machine, part 12: a state read in another way: blocks given up, numbers changed, values and contents weakened. -/
import Derived.Test.YtdglhalkilneaaaAb11
namespace Go.Ab

/-! ### Values, part by part -/
def liftV (f : V1 → V1) : V1 → V1
  | .fn g caps => .fn g (caps.map f)
  | v => f v
def liftA (f : V1 → V1) : AV → AV
  | .one v => .one (liftV f v)
  | .agg vs => .agg (vs.map (liftV f))
  | .tup es => .tup (es.map fun e => (e.1, e.2.map (liftV f)))
  | .whn g v => .whn g (liftA f v)
def liftO (f : V1 → V1) : Obj → Obj
  | .box n sz vs => .box n sz (vs.map (liftV f))
  | o => o
theorem liftO_sz (f : V1 → V1) (o : Obj) : (liftO f o).sz = o.sz := by cases o <;> rfl
theorem liftO_len (f : V1 → V1) (o : Obj) : (liftO f o).len = o.len := by cases o <;> rfl

/-- f says what a value of M is in M'. -/
def Turns (f : V1 → V1) (M M' : Mem) : Prop := ∀ v u, noFn v = true → VM M v u → noFn (f v) = true ∧ VM M' (f v) u

theorem C0_cell_noFn (c : C0) (i j : Nat) : noFn (c.cell i j) = true := by
  cases c <;> first | rfl | skip
  all_goals (simp only [C0.cell]; first | unfold arcCell | unfold ndCell | unfold stepCell)
  all_goals (split <;> rfl)
theorem C1_cell_noFn (c : C1) (i j : Nat) : noFn (c.cell i j) = true := by
  cases c <;> first | rfl | skip
  all_goals (simp only [C1.cell]; unfold pieceCell; split <;> rfl)

section
variable {f : V1 → V1} {M M' : Mem}
theorem VR_lift {v : V1} {u : Value} (h : Turns f M M') (hv : VR M v u) : VR M' (liftV f v) u := by
  cases hn : noFn v
  · cases v <;> first | (cases hn; done) | skip
    obtain ⟨cs, rfl, hl, hc⟩ := hv
    refine ⟨cs, rfl, by simpa using hl, fun i c hi => ?_⟩
    simp only [List.getElem?_map, Option.map_eq_some_iff] at hi
    obtain ⟨c0, hc0, rfl⟩ := hi
    obtain ⟨u, hu, hv⟩ := hc i c0 hc0
    refine ⟨u, hu, ?_⟩
    cases hcf : noFn c0
    · cases c0 <;> first | (cases hcf; done) | exact hv.elim
    · exact (h c0 u hcf hv).2
  · have h1 := h v u hn (VM_of_VR hn hv)
    have : liftV f v = f v := by cases v <;> first | rfl | cases hn
    rw [this]
    exact VR_of_VM h1.1 h1.2
theorem CellsR_lift {vs : List V1} {cs : Array Value} (h : Turns f M M') (hv : CellsR M vs cs) : CellsR M' (vs.map (liftV f)) cs := by
  refine ⟨by simpa using hv.1, fun i v hi => ?_⟩
  simp only [List.getElem?_map, Option.map_eq_some_iff] at hi
  obtain ⟨v0, hv0, rfl⟩ := hi
  obtain ⟨u, hu, hv⟩ := hv.2 i v0 hv0
  exact ⟨u, hu, VR_lift h hv⟩
theorem AVR_lift {v : AV} {u : Value} (h : Turns f M M') (hv : AVR M v u) : AVR M' (liftA f v) u := by
  induction v with
  | one v => exact VR_lift h hv
  | agg vs => obtain ⟨cs, rfl, hc⟩ := hv; exact ⟨cs, rfl, CellsR_lift h hc⟩
  | tup es =>
    obtain ⟨us, rfl, hn, hc⟩ := hv
    refine ⟨us, rfl, by simpa using hn, fun i e hi => ?_⟩
    simp only [List.getElem?_map, Option.map_eq_some_iff] at hi
    obtain ⟨e0, he0, rfl⟩ := hi
    obtain ⟨x, hx, hr⟩ := hc i e0 he0
    refine ⟨x, hx, ?_⟩
    obtain ⟨b, vs⟩ := e0
    cases b
    · match vs, hr with
      | [v], hr => exact VR_lift h hr
    · obtain ⟨cs, rfl, hc⟩ := hr
      exact ⟨cs, rfl, CellsR_lift h hc⟩
  | whn g v ih => exact ⟨fun hg => ih (hv.1 hg), hv.2⟩
end

/-- Contents keep what they say, wherever settled values do. -/
def Calm (M M' : Mem) : Prop := ∀ v u, v.low = true → VM M v u → VM M' v u
theorem C0_cell_low (c : C0) (i j : Nat) : (c.cell i j).low = true := by
  cases c <;> first | rfl | skip
  all_goals (simp only [C0.cell]; first | unfold arcCell | unfold ndCell | unfold stepCell)
  all_goals (split <;> rfl)
theorem C1_cell_low (c : C1) (i j : Nat) : (c.cell i j).low = true := by
  cases c <;> first | rfl | skip
  all_goals (simp only [C1.cell]; unfold pieceCell; split <;> rfl)
theorem Turns.calm {f : V1 → V1} {M M' : Mem} (h : Turns f M M') (hf : ∀ v : V1, v.low = true → noFn v = true → f v = v) : ∀ v u, v.low = true → noFn v = true → VM M v u → VM M' v u := fun v u hl hn hv => by
  have := (h v u hn hv).2
  rwa [hf v hl hn] at this
theorem liftO_cell {f : V1 → V1} {M M' : Mem} (h : Turns f M M') (hf : ∀ v : V1, v.low = true → noFn v = true → f v = v) {o : Obj} {i j : Nat} {u : Value} (hi : VR M (o.cell i j) u) : VR M' ((liftO f o).cell i j) u := by
  cases o with
  | flat c => exact VR_of_VM (C0_cell_noFn c i j) (h.calm hf _ _ (C0_cell_low c i j) (C0_cell_noFn c i j) (VM_of_VR (C0_cell_noFn c i j) hi))
  | recs c => exact VR_of_VM (C1_cell_noFn c i j) (h.calm hf _ _ (C1_cell_low c i j) (C1_cell_noFn c i j) (VM_of_VR (C1_cell_noFn c i j) hi))
  | box n sz vs =>
    show VR M' ((vs.map (liftV f)).getD (i * sz + j) .any) u
    have hi' : VR M (vs.getD (i * sz + j) .any) u := hi
    simp only [List.getD_eq_getElem?_getD, List.getElem?_map] at hi' ⊢
    cases hv : vs[i * sz + j]? with
    | none =>
      rw [hv] at hi'
      exact VR_oneCell hi'
    | some v =>
      rw [hv] at hi'
      exact VR_lift h hi'

/-! ### A block is given up: from here on nobody writes it -/
def sealV (id : Nat) (o : Obj) : V1 → V1
  | .rw id' off len => cond (Nat.beq id' id)
      (match o with
      | .flat c => .ro (c.sub off (nadd off len))
      | .recs c => .rs (c.sub off (nadd off len))
      | .box _ _ _ => .any) (.rw id' off len)
  | .ptr id' i j => cond (Nat.beq id' id) .any (.ptr id' i j)
  | v => v
def sealS (id : Nat) (s : St) : Option St :=
  match look id s.hp with
  | some o => cond (o.grows && big id) (some ⟨s.n, mapV (liftA (sealV id o)) s.tm, mapV (liftO (sealV id o)) (del id s.hp)⟩) none
  | none => none

theorem sealV_low (id : Nat) (o : Obj) (v : V1) (h : v.low = true) (_ : noFn v = true) : sealV id o v = v := by cases v <;> first | rfl | cases h

theorem sub_all {α : Type} (xs : List α) (n : Nat) (h : n = xs.length) : List.drop 0 (List.take (0 + n) xs) = xs := by subst h; simp
theorem sub_nil {α : Type} (xs : List α) (n : Nat) : List.drop n (List.take (n + 0) xs) = [] := by simp

/-- Slices of contents: part of them. -/
theorem roSl_sub {M : Mem} {sz n off len cap b p a : Nat} {C C' : Nat → Nat → Value → Prop} (hr : M.rowAt n sz C b p) (ha : a = p + off * sz) (hle : off + len ≤ n) (hcap : len ≤ cap) (hmax : cap ≤ maxLen) (hC : ∀ i j u, i < len → C (off + i) j u → C' i j u) :
    M.roSl len sz C' (.slice (some ⟨b, a, none⟩) len cap) := by
  refine ⟨_, cap, rfl, hcap, hmax, .inr ⟨b, a, rfl, hr.1, fun i hi j hj => ?_⟩⟩
  obtain ⟨u, hu, hc⟩ := hr.2 (off + i) (by omega) j hj
  refine ⟨u, ?_, hC i j u hi hc⟩
  rw [← hu, ha, Nat.add_mul]
  congr 2
  omega

theorem awk_seal (id : Nat) {s s' : St} (h : sealS id s = some s') : AWk s s' := fun M a hr => by
  unfold sealS at h
  split at h
  · rename_i o ho
    cases hb : (o.grows && big id)
    · rw [hb] at h; cases h
    · rw [hb] at h
      simp only [cond_true, Option.some.injEq] at h
      subst h
      simp only [Bool.and_eq_true] at hb
      obtain ⟨hg, hbig⟩ := hb
      rw [← hr.hp] at ho
      have hM := hr.ok
      -- the memory without the block
      let M' : Mem := ⟨M.μ, mapV (liftO (sealV id o)) (del id s.hp), M.w, fun b => M.free b ∨ ∃ p, M.μ id = some (b, p)⟩
      have hlk : ∀ x o', look x M'.H = some o' → x ≠ id ∧ ∃ o1, look x M.H = some o1 ∧ o' = liftO (sealV id o) o1 := by
        intro x o' h
        have h' : look x (mapV (liftO (sealV id o)) (del id s.hp)) = some o' := h
        rw [look_mapV, look_del, Option.map_eq_some_iff] at h'
        obtain ⟨o1, h1, rfl⟩ := h'
        by_cases hx : x = id
        · rw [if_pos hx] at h1; cases h1
        · rw [if_neg hx] at h1
          exact ⟨hx, o1, by rw [hr.hp]; exact h1, rfl⟩
      have hlk' : ∀ x o1, x ≠ id → look x M.H = some o1 → look x M'.H = some (liftO (sealV id o) o1) := by
        intro x o1 hx h1
        show look x (mapV (liftO (sealV id o)) (del id s.hp)) = _
        rw [look_mapV, look_del, if_neg hx, ← hr.hp, h1]; rfl
      have hlive : ∀ b, M'.live b → M.live b := by
        rintro b ⟨x, o', p, h1, h2⟩
        obtain ⟨_, o1, h3, _⟩ := hlk x o' h1
        exact ⟨x, o1, p, h3, h2⟩
      have hdead : ∀ b p, M.μ id = some (b, p) → ¬ M'.live b := by
        rintro b p hm ⟨x, o', q, h1, h2⟩
        obtain ⟨hx, o1, h3, _⟩ := hlk x o' h1
        exact hx (hM.inj x id o1 o b q p h3 ho h2 hm)
      have hkeep : Keep M M' := ⟨rfl, rfl, rfl, Nat.le_refl _, fun b _ hl => ⟨rfl, fun h => hl (hlive b h)⟩, fun b h => .inl h, fun b h => by
        rcases h with h | ⟨p, h⟩
        · exact .inl h
        · exact .inr (.inl ⟨id, o, p, ho, h⟩)⟩
      have hrow : ∀ b p, M.μ id = some (b, p) → M'.rowAt o.len o.sz (fun i j u => VR M (o.cell i j) u) b p := by
        intro b p hm
        obtain ⟨cur, e, g1, g2, g3⟩ := hM.obj id o b p ho hm
        refine ⟨⟨.inr ⟨p, hm⟩, hdead b p hm⟩, fun i hi j hj => ?_⟩
        obtain ⟨u, k1, k2, k3⟩ := g3 i hi j hj
        exact ⟨u, (cell_of_row _ _ _ _ _ _ g1).trans k1, k3⟩
      have hturn : Turns (sealV id o) M M' := by
        intro v u hn hv
        have hnf : noFn (sealV id o v) = true := by
          cases v <;> first | rfl | (cases hn; done) | skip
          · simp only [sealV]; cases Nat.beq _ id <;> rfl
          · simp only [sealV]; cases Nat.beq _ id <;> first | rfl | (cases o <;> rfl)
        refine ⟨hnf, ?_⟩
        by_cases hlow : v.low = true
        · rw [sealV_low id o v hlow hn, VM_low hlow]
          rw [VM_low hlow] at hv
          exact VF_keep hkeep hv
        · cases v <;> first | exact absurd rfl hlow | skip
          case ptr x i j =>
            simp only [sealV]
            by_cases hx : x = id
            · subst hx
              rw [beq_self]
              exact VM_oneCell hv
            · rw [beq_ne hx]
              obtain ⟨o1, b, p, h1, h2, rfl⟩ := hv
              exact ⟨_, b, p, hlk' x o1 hx h1, h2, by rw [liftO_sz]⟩
          case rw x off len =>
            simp only [sealV]
            by_cases hx : x = id
            · subst hx
              rw [beq_self]
              obtain ⟨o1, h1, h2, h3⟩ := hv
              rw [ho] at h1
              cases h1
              cases o with
              | flat c =>
                simp only [nadd_eq]
                have hlen := C0.sub_len c off (off + len) h2
                have e1 : off + len - off = len := by omega
                rw [e1] at hlen
                show M'.roSl (c.sub off (off + len)).len (c.sub off (off + len)).sz _ u
                rw [hlen, C0.sub_sz]
                rcases h3 with ⟨h3, A, rfl⟩ | ⟨b, p, a, cap, hm, rfl, k1, k2, k3, _⟩
                · subst h3
                  exact ⟨A, 0, rfl, Nat.le_refl _, Nat.zero_le _, .inl rfl⟩
                · refine roSl_sub (hrow b p hm) k3 h2 k1 k2 fun i j u hi hu => ?_
                  simp only [C0.sub_cell c off (off + len) i j (by omega)]
                  exact C0_cell_back hu
              | recs c =>
                simp only [nadd_eq]
                have hlen := C1.sub_len c off (off + len) h2
                have e1 : off + len - off = len := by omega
                rw [e1] at hlen
                show M'.roSl (c.sub off (off + len)).len (c.sub off (off + len)).sz _ u
                rw [hlen, C1.sub_sz]
                rcases h3 with ⟨h3, A, rfl⟩ | ⟨b, p, a, cap, hm, rfl, k1, k2, k3, _⟩
                · subst h3
                  exact ⟨A, 0, rfl, Nat.le_refl _, Nat.zero_le _, .inl rfl⟩
                · refine roSl_sub (hrow b p hm) k3 h2 k1 k2 fun i j u hi hu => ?_
                  simp only [C1.sub_cell c off (off + len) i j (by omega)]
                  exact VF_keep hkeep (C1_cell_back hu)
              | box n sz vs => cases hg
            · rw [beq_ne hx]
              obtain ⟨o1, h1, h2, h3⟩ := hv
              refine ⟨_, hlk' x o1 hx h1, by rw [liftO_len]; exact h2, ?_⟩
              rw [liftO_sz]
              exact h3
          case rs c => exact roSl_mono hkeep c.sz_pos (fun _ _ _ h => VF_keep hkeep h) hv
          case rq c i j => exact roPt_mono hkeep (fun _ _ _ h => VF_keep hkeep h) hv
      refine ⟨M', ⟨rfl, ?_, hr.defers, hr.size, fun d v hd => ?_⟩, rfl, ⟨hkeep, fun x o1 hx h1 => ?_⟩⟩
      · refine ⟨fun b hb => ?_, fun x y o1 o2 b p q hx hy hmx hmy => ?_, fun x o1 hx hm => ?_, fun x o1 b p hx hm => ?_⟩
        · rcases hb with hb | ⟨p, hb⟩
          · exact ⟨(hM.fr b hb).1, fun h => (hM.fr b hb).2 (hlive b h)⟩
          · obtain ⟨cur, e, g1, _⟩ := hM.obj id o b p ho hb
            exact ⟨(Array.getElem?_eq_some_iff.1 g1).1, hdead b p hb⟩
        · obtain ⟨_, a1, h1, _⟩ := hlk x o1 hx
          obtain ⟨_, a2, h2, _⟩ := hlk y o2 hy
          exact hM.inj x y a1 a2 b p q h1 h2 hmx hmy
        · obtain ⟨_, a1, h1, rfl⟩ := hlk x o1 hx
          rw [liftO_len]; exact hM.none_ x a1 h1 hm
        · obtain ⟨_, a1, h1, rfl⟩ := hlk x o1 hx
          obtain ⟨cur, e, g1, g2, g3⟩ := hM.obj x a1 b p h1 hm
          refine ⟨cur, e, g1, by rw [liftO_len, liftO_sz]; exact g2, fun i hi j hj => ?_⟩
          rw [liftO_len] at hi
          rw [liftO_sz] at hj ⊢
          obtain ⟨u, k1, k2, k3⟩ := g3 i hi j hj
          exact ⟨u, k1, k2, liftO_cell hturn (sealV_low id o) k3⟩
      · have hd' : look d (mapV (liftA (sealV id o)) s.tm) = some v := hd
        rw [look_mapV, Option.map_eq_some_iff] at hd'
        obtain ⟨v0, h0, rfl⟩ := hd'
        obtain ⟨u, hu, hv⟩ := hr.tm d v0 h0
        exact ⟨u, hu, AVR_lift hturn hv⟩
      · have hxi : x ≠ id := by
          rintro rfl
          rw [hbig] at hx; cases hx
        exact ⟨_, hlk' x o1 hxi h1, liftO_sz _ _, by rw [liftO_len]; exact Nat.le_refl _, rfl, fun b p cur e _ hc => ⟨cur, hc, rfl⟩⟩
  · cases h

/-! ### Another number -/
def renV (id y : Nat) : V1 → V1
  | .rw x off len => cond (Nat.beq x id) (.rw y off len) (.rw x off len)
  | .ptr x i j => cond (Nat.beq x id) (.ptr y i j) (.ptr x i j)
  | v => v
def renS (id y : Nat) (s : St) : Option St :=
  match look id s.hp, look y s.hp with
  | some o, none => cond (big id) (some ⟨s.n, mapV (liftA (renV id y)) s.tm, ins y (liftO (renV id y) o) (mapV (liftO (renV id y)) (del id s.hp))⟩) none
  | _, _ => none
theorem renV_low (id y : Nat) (v : V1) (h : v.low = true) (_ : noFn v = true) : renV id y v = v := by cases v <;> first | rfl | cases h

theorem awk_ren (id y : Nat) {s s' : St} (h : renS id y s = some s') : AWk s s' := fun M a hr => by
  unfold renS at h
  split at h
  · rename_i o ho hy
    cases hb : big id
    · rw [hb] at h; cases h
    · rw [hb] at h
      simp only [cond_true, Option.some.injEq] at h
      subst h
      rw [← hr.hp] at ho hy
      have hM := hr.ok
      have hne : id ≠ y := by rintro rfl; rw [ho] at hy; cases hy
      let f := renV id y
      let M' : Mem := ⟨fun x => if x = y then M.μ id else M.μ x, ins y (liftO f o) (mapV (liftO f) (del id s.hp)), M.w, M.free⟩
      have hlk : ∀ x o', look x M'.H = some o' → ∃ x1 o1, look x1 M.H = some o1 ∧ o' = liftO f o1 ∧ M'.μ x = M.μ x1 ∧ (x = if x1 = id then y else x1) := by
        intro x o' h
        have h' : look x (ins y (liftO f o) (mapV (liftO f) (del id s.hp))) = some o' := h
        rw [look_ins] at h'
        by_cases hx : x = y
        · rw [if_pos hx] at h'
          cases h'
          exact ⟨id, o, ho, rfl, by simp [M', hx], by simp [hx]⟩
        · rw [if_neg hx, look_mapV, look_del, Option.map_eq_some_iff] at h'
          obtain ⟨o1, h1, rfl⟩ := h'
          by_cases hxi : x = id
          · rw [if_pos hxi] at h1; cases h1
          · rw [if_neg hxi] at h1
            exact ⟨x, o1, by rw [hr.hp]; exact h1, rfl, by simp [M', hx], by simp [hxi]⟩
      have hlk1 : look y M'.H = some (liftO f o) := by
        show look y (ins y (liftO f o) (mapV (liftO f) (del id s.hp))) = _
        rw [look_ins, if_pos rfl]
      have hlk' : ∀ x o1, x ≠ id → look x M.H = some o1 → x ≠ y ∧ look x M'.H = some (liftO f o1) := by
        intro x o1 hx h1
        have hxy : x ≠ y := by rintro rfl; rw [hy] at h1; cases h1
        refine ⟨hxy, ?_⟩
        show look x (ins y (liftO f o) (mapV (liftO f) (del id s.hp))) = _
        rw [look_ins, if_neg hxy, look_mapV, look_del, if_neg hx, ← hr.hp, h1]; rfl
      have hlive : ∀ b, M'.live b → M.live b := by
        rintro b ⟨x, o', p, h1, h2⟩
        obtain ⟨x1, o1, h3, _, h4, _⟩ := hlk x o' h1
        exact ⟨x1, o1, p, h3, by rw [← h4]; exact h2⟩
      have hkeep : Keep M M' := ⟨rfl, rfl, rfl, Nat.le_refl _, fun b _ hl => ⟨rfl, fun h => hl (hlive b h)⟩, fun b h => h, fun b h => .inl h⟩
      have hμy : M'.μ y = M.μ id := by simp [M']
      have hturn : Turns f M M' := by
        intro v u hn hv
        have hnf : noFn (f v) = true := by
          cases v <;> first | rfl | (cases hn; done) | skip
          · simp only [f, renV]; cases Nat.beq _ id <;> rfl
          · simp only [f, renV]; cases Nat.beq _ id <;> rfl
        refine ⟨hnf, ?_⟩
        by_cases hlow : v.low = true
        · rw [show f v = v from renV_low id y v hlow hn, VM_low hlow]
          rw [VM_low hlow] at hv
          exact VF_keep hkeep hv
        · cases v <;> first | exact absurd rfl hlow | skip
          case ptr x i j =>
            simp only [f, renV]
            by_cases hx : x = id
            · subst hx
              rw [beq_self]
              obtain ⟨o1, b, p, h1, h2, rfl⟩ := hv
              rw [ho] at h1; cases h1
              exact ⟨_, b, p, hlk1, by rw [hμy]; exact h2, by rw [liftO_sz]⟩
            · rw [beq_ne hx]
              obtain ⟨o1, b, p, h1, h2, rfl⟩ := hv
              obtain ⟨hxy, h3⟩ := hlk' x o1 hx h1
              exact ⟨_, b, p, h3, by show (if x = y then M.μ id else M.μ x) = _; rw [if_neg hxy]; exact h2, by rw [liftO_sz]⟩
          case rw x off len =>
            simp only [f, renV]
            by_cases hx : x = id
            · subst hx
              rw [beq_self]
              obtain ⟨o1, h1, h2, h3⟩ := hv
              rw [ho] at h1; cases h1
              refine ⟨_, hlk1, by rw [liftO_len]; exact h2, ?_⟩
              rw [liftO_sz, hμy]
              exact h3
            · rw [beq_ne hx]
              obtain ⟨o1, h1, h2, h3⟩ := hv
              obtain ⟨hxy, h4⟩ := hlk' x o1 hx h1
              refine ⟨_, h4, by rw [liftO_len]; exact h2, ?_⟩
              rw [liftO_sz, show M'.μ x = M.μ x from by show (if x = y then M.μ id else M.μ x) = _; rw [if_neg hxy]]
              exact h3
          case rs c => exact roSl_mono hkeep c.sz_pos (fun _ _ _ h => VF_keep hkeep h) hv
          case rq c i j => exact roPt_mono hkeep (fun _ _ _ h => VF_keep hkeep h) hv
      refine ⟨M', ⟨rfl, ?_, hr.defers, hr.size, fun d v hd => ?_⟩, rfl, ⟨hkeep, fun x o1 hx h1 => ?_⟩⟩
      · refine ⟨fun b hb => ⟨(hM.fr b hb).1, fun h => (hM.fr b hb).2 (hlive b h)⟩, fun x z o1 o2 b p q hx hz hmx hmz => ?_, fun x o1 hx hm => ?_, fun x o1 b p hx hm => ?_⟩
        · obtain ⟨x1, a1, h1, _, m1, e1⟩ := hlk x o1 hx
          obtain ⟨x2, a2, h2, _, m2, e2⟩ := hlk z o2 hz
          have := hM.inj x1 x2 a1 a2 b p q h1 h2 (by rw [← m1]; exact hmx) (by rw [← m2]; exact hmz)
          rw [e1, e2, this]
        · obtain ⟨x1, a1, h1, rfl, m1, _⟩ := hlk x o1 hx
          rw [liftO_len]; exact hM.none_ x1 a1 h1 (by rw [← m1]; exact hm)
        · obtain ⟨x1, a1, h1, rfl, m1, _⟩ := hlk x o1 hx
          obtain ⟨cur, e, g1, g2, g3⟩ := hM.obj x1 a1 b p h1 (by rw [← m1]; exact hm)
          refine ⟨cur, e, g1, by rw [liftO_len, liftO_sz]; exact g2, fun i hi j hj => ?_⟩
          rw [liftO_len] at hi
          rw [liftO_sz] at hj ⊢
          obtain ⟨u, k1, k2, k3⟩ := g3 i hi j hj
          exact ⟨u, k1, k2, liftO_cell hturn (renV_low id y) k3⟩
      · have hd' : look d (mapV (liftA f) s.tm) = some v := hd
        rw [look_mapV, Option.map_eq_some_iff] at hd'
        obtain ⟨v0, h0, rfl⟩ := hd'
        obtain ⟨u, hu, hv⟩ := hr.tm d v0 h0
        exact ⟨u, hu, AVR_lift hturn hv⟩
      · have hxi : x ≠ id := by
          rintro rfl
          rw [hb] at hx; cases hx
        obtain ⟨hxy, h3⟩ := hlk' x o1 hxi h1
        exact ⟨_, h3, liftO_sz _ _, by rw [liftO_len]; exact Nat.le_refl _, by show (if x = y then M.μ id else M.μ x) = _; rw [if_neg hxy], fun b p cur e _ hc => ⟨cur, hc, rfl⟩⟩
  · cases h

/-! ### An empty slice gets a number -/
theorem awk_empty (id : Nat) (o : Obj) (ho : o.len = 0) (hb : big id = true) (s : St) : AWk s ⟨s.n, mapV (clrA (Nat.beq id)) s.tm, ins id o (mapV (clrO (Nat.beq id)) s.hp)⟩ := fun M a hr => by
  obtain ⟨h1, h2⟩ := MOk_free hr.ok id o ho
  rw [← hr.hp]
  have h3 := hr.step rfl h1 h2
  exact ⟨_, h3, rfl, h2.mono (fun x hx => by have := Nat.eq_of_beq_eq_true hx; subst this; exact hb)⟩

/-! ### Values and contents are weakened -/
/-- In a memory with the heap H what v says is what v' says, and more. -/
def WkV (H : Heap) (v v' : V1) : Prop := ∀ M u, M.H = H → VR M v u → VR M v' u
theorem WkV.refl (H : Heap) (v : V1) : WkV H v v := fun _ _ _ h => h
theorem wkv_any (H : Heap) (v : V1) : WkV H v .any := fun _ _ _ h => VR_oneCell h
theorem wkv_nils {H : Heap} {id : Nat} {o : Obj} (h : look id H = some o) : WkV H .nils (.rw id 0 0) := fun M u hH hv => by
  obtain ⟨A, rfl⟩ := hv
  exact ⟨o, by rw [hH]; exact h, by omega, .inl ⟨rfl, A, rfl⟩⟩
theorem wkv_nil0 {H : Heap} {c : C0} (h : c.len = 0) : WkV H .nils (.ro c) := fun M u _ hv => by
  obtain ⟨A, rfl⟩ := hv
  exact ⟨A, 0, by rw [h], by rw [h]; exact Nat.le_refl _, Nat.zero_le _, .inl h⟩
theorem wkv_nil1 {H : Heap} {c : C1} (h : c.len = 0) : WkV H .nils (.rs c) := fun M u _ hv => by
  obtain ⟨A, rfl⟩ := hv
  exact ⟨A, 0, by rw [h], by rw [h]; exact Nat.le_refl _, Nat.zero_le _, .inl h⟩

inductive WkA (H : Heap) : AV → AV → Prop where
  | refl (v : AV) : WkA H v v
  | one {v v' : V1} (h : WkV H v v') : WkA H (.one v) (.one v')
  | yes {g : Bool} {v v' : AV} (hg : g = true) (h : WkA H v v') : WkA H (.whn g v) v'
  | agg {vs vs' : List V1} (hl : vs.length = vs'.length) (h : ∀ (i : Nat) (v' : V1), vs'[i]? = some v' → ∃ v, vs[i]? = some v ∧ WkV H v v') : WkA H (.agg vs) (.agg vs')
theorem WkA.sound {H : Heap} {v v' : AV} (h : WkA H v v') : ∀ {M : Mem} {u : Value}, M.H = H → AVR M v u → AVR M v' u := by
  induction h with
  | refl v => exact fun _ h => h
  | one h => exact fun hH hv => h _ _ hH hv
  | yes hg _ ih => exact fun hH hv => ih hH (hv.1 hg)
  | agg hl h =>
    intro M u hH hv
    obtain ⟨cs, rfl, hn, hc⟩ := hv
    refine ⟨cs, rfl, by omega, fun i v' hi => ?_⟩
    obtain ⟨v, hv, hw⟩ := h i v' hi
    obtain ⟨x, hx, hr⟩ := hc i v hv
    exact ⟨x, hx, hw _ _ hH hr⟩

/-- A slot's value is weakened. -/
theorem awk_slot (d : Nat) (v v' : AV) (s : St) (h : look d s.tm = some v) (hw : WkA s.hp v v') : AWk s ⟨s.n, ins d v' s.tm, s.hp⟩ := fun M a hr => by
  refine ⟨M, ⟨hr.hp, hr.ok, hr.defers, hr.size, fun e x he => ?_⟩, rfl, Ext.refl _ _⟩
  have he' : look e (ins d v' s.tm) = some x := he
  rw [look_ins] at he'
  by_cases hed : e = d
  · rw [if_pos hed] at he'
    cases he'
    subst hed
    obtain ⟨u, hu, hv⟩ := hr.tm _ v h
    exact ⟨u, hu, hw.sound hr.hp hv⟩
  · rw [if_neg hed] at he'
    exact hr.tm e x he'

/-- The contents of a block are weakened. -/
theorem awk_obj (id : Nat) (o o' : Obj) (s : St) (h : look id s.hp = some o) (hl : o'.len = o.len) (hz : o'.sz = o.sz) (hw : ∀ i j, i < o.len → j < o.sz → WkV s.hp (o.cell i j) (o'.cell i j)) : AWk s ⟨s.n, s.tm, ins id o' s.hp⟩ := fun M a hr => by
  have hM := hr.ok
  rw [← hr.hp] at h
  let M' : Mem := ⟨M.μ, ins id o' s.hp, M.w, M.free⟩
  have hlk : ∀ x x', look x M'.H = some x' → ∃ o1, look x M.H = some o1 ∧ x'.len = o1.len ∧ x'.sz = o1.sz ∧ ∀ i j, i < o1.len → j < o1.sz → WkV s.hp (o1.cell i j) (x'.cell i j) := by
    intro x x' hx
    have hx' : look x (ins id o' s.hp) = some x' := hx
    rw [look_ins] at hx'
    by_cases hxi : x = id
    · rw [if_pos hxi] at hx'
      cases hx'
      subst hxi
      exact ⟨o, h, hl, hz, hw⟩
    · rw [if_neg hxi] at hx'
      exact ⟨x', by rw [hr.hp]; exact hx', rfl, rfl, fun _ _ _ _ => WkV.refl _ _⟩
  have hlk' : ∀ x o1, look x M.H = some o1 → ∃ x', look x M'.H = some x' ∧ x'.sz = o1.sz ∧ o1.len ≤ x'.len := by
    intro x o1 hx
    by_cases hxi : x = id
    · subst hxi
      rw [h] at hx; cases hx
      exact ⟨o', by show look x (ins x o' s.hp) = _; rw [look_ins, if_pos rfl], hz, by omega⟩
    · exact ⟨o1, by show look x (ins id o' s.hp) = _; rw [look_ins, if_neg hxi, ← hr.hp]; exact hx, rfl, Nat.le_refl _⟩
  have hlive : ∀ b, M'.live b → M.live b := by
    rintro b ⟨x, x', p, h1, h2⟩
    obtain ⟨o1, h3, _⟩ := hlk x x' h1
    exact ⟨x, o1, p, h3, h2⟩
  have hext : Ext noX M M' := by
    refine ⟨⟨rfl, rfl, rfl, Nat.le_refl _, fun b _ hl => ⟨rfl, fun h => hl (hlive b h)⟩, fun b h => h, fun b h => .inl h⟩, fun x o1 _ hx => ?_⟩
    obtain ⟨x', h1, h2, h3⟩ := hlk' x o1 hx
    exact ⟨x', h1, h2, h3, rfl, fun b p cur e _ hc => ⟨cur, hc, rfl⟩⟩
  refine ⟨M', ⟨rfl, ?_, hr.defers, hr.size, fun d v hd => ?_⟩, rfl, hext.mono (fun x hx => by cases hx)⟩
  · refine ⟨fun b hb => ⟨(hM.fr b hb).1, fun h => (hM.fr b hb).2 (hlive b h)⟩, fun x y o1 o2 b p q hx hy hmx hmy => ?_, fun x o1 hx hm => ?_, fun x o1 b p hx hm => ?_⟩
    · obtain ⟨a1, h1, _⟩ := hlk x o1 hx
      obtain ⟨a2, h2, _⟩ := hlk y o2 hy
      exact hM.inj x y a1 a2 b p q h1 h2 hmx hmy
    · obtain ⟨a1, h1, h2, _⟩ := hlk x o1 hx
      rw [h2]; exact hM.none_ x a1 h1 hm
    · obtain ⟨a1, h1, h2, h3, h4⟩ := hlk x o1 hx
      obtain ⟨cur, e, g1, g2, g3⟩ := hM.obj x a1 b p h1 hm
      refine ⟨cur, e, g1, by rw [h2, h3]; exact g2, fun i hi j hj => ?_⟩
      rw [h2] at hi
      rw [h3] at hj ⊢
      obtain ⟨u, k1, k2, k3⟩ := g3 i hi j hj
      exact ⟨u, k1, k2, VR_ext0 hext (h4 i j hi hj M u hr.hp k3)⟩
  · obtain ⟨u, hu, hv⟩ := hr.tm d v hd
    exact ⟨u, hu, AVR_ext0 hext hv⟩

end Go.Ab
