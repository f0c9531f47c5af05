/- The abstract machine, part 5: slices, closures, builtins, literals; the step that changes no memory is sound. -/
import Derived.Test.YtdglhalkilneaaaAb4
namespace Go.Ab
section
variable {P : Program} {T : Nat → Option TI} {M : Mem}

theorem bnd_sound {ev : Operand → Option AV} {ρ : Operand → Value} (hev : ∀ x v, ev x = some v → AVR M v (ρ x)) {d n : Int} {x : Option Operand} (h : bnd ev d x = some n) :
    (x = none ∧ n = d) ∨ ∃ y k, x = some y ∧ ρ y = .int k n := by
  cases x with
  | none => simp only [bnd, Option.some.injEq] at h; exact .inl ⟨rfl, h.symm⟩
  | some y =>
    simp only [bnd] at h
    split at h
    · rename_i k m hm
      simp only [Option.some.injEq] at h
      subst h
      exact .inr ⟨y, k, rfl, hev _ _ hm⟩
    · cases h

theorem sliceBound_run (k : IntKind) (i : Int) (y : Nat) (code : BoundsCode) (h0 : 0 ≤ i) (h1 : i ≤ y) (w : World) : (Instr.sliceBound (.int k i) y code).run P w = .ok i.toNat w := by
  simp [Instr.sliceBound, asIntOf, h0, h1]

/-- The bounds of a slice, none of them above the capacity. -/
theorem sliceBounds_run {ev : Operand → Option AV} {ρ : Operand → Value} (hev : ∀ x v, ev x = some v → AVR M v (ρ x)) {len cap : Nat} {lo hi mx : Option Operand} {l h : Int} {m : Option Int}
    (hl : bnd ev 0 lo = some l) (hh : bnd ev len hi = some h) (hm : (mx = none ∧ m = none) ∨ ∃ x k m0, mx = some x ∧ hi ≠ none ∧ ρ x = .int k m0 ∧ m = some m0) (hlc : len ≤ cap)
    (hc : AllP (sliceBnds len l h m)) (w : World) :
    0 ≤ l ∧ l ≤ h ∧ h ≤ (len : Int) ∧
    ∃ c, h.toNat ≤ c ∧ c ≤ cap ∧ (Instr.sliceBounds true len cap (lo.map ρ) (hi.map ρ) (mx.map ρ)).run P w = .ok (l.toNat, h.toNat, c) w := by
  have h3 : 0 ≤ l ∧ l ≤ h ∧ h ≤ (len : Int) := by
    cases m with
    | none => exact ⟨hc.1, hc.2.1, hc.2.2.1⟩
    | some m0 => exact ⟨hc.1, hc.2.1, by have := hc.2.2.1; have := hc.2.2.2.1; omega⟩
  refine ⟨h3.1, h3.2.1, h3.2.2, ?_⟩
  have bl : ∀ (y : Nat) (code : BoundsCode) (x : Operand) (k : IntKind), ρ x = .int k l → l ≤ y → (Instr.sliceBound (ρ x) y code).run P w = .ok l.toNat w := by
    intro y code x k hx hy; rw [hx]; exact sliceBound_run k l y code h3.1 hy w
  have bh : ∀ (y : Nat) (code : BoundsCode) (x : Operand) (k : IntKind), ρ x = .int k h → h ≤ y → (Instr.sliceBound (ρ x) y code).run P w = .ok h.toNat w := by
    intro y code x k hx hy; rw [hx]; exact sliceBound_run k h y code (by omega) hy w
  have hl' := bnd_sound hev hl
  have hh' := bnd_sound hev hh
  rcases hm with ⟨rfl, rfl⟩ | ⟨x, k, m0, rfl, hne, hx, rfl⟩
  · refine ⟨cap, by omega, Nat.le_refl _, ?_⟩
    rcases hl' with ⟨rfl, rfl⟩ | ⟨yl, kl, rfl, hyl⟩ <;> rcases hh' with ⟨rfl, rfl⟩ | ⟨yh, kh, rfl, hyh⟩
    · simp [Instr.sliceBounds]
    · simp [Instr.sliceBounds, bh cap _ yh kh hyh (by omega)]
    · simp [Instr.sliceBounds, bl len _ yl kl hyl (by omega)]
    · simp [Instr.sliceBounds, bh cap _ yh kh hyh (by omega), bl h.toNat _ yl kl hyl (by omega)]
  · have h4 : h ≤ m0 := hc.2.2.1
    have h5 : m0 ≤ (len : Int) := hc.2.2.2.1
    have bm : ∀ (code : BoundsCode), (Instr.sliceBound (ρ x) cap code).run P w = .ok m0.toNat w := by
      intro code; rw [hx]; exact sliceBound_run k m0 cap code (by omega) (by omega) w
    refine ⟨m0.toNat, by omega, by omega, ?_⟩
    rcases hh' with ⟨rfl, _⟩ | ⟨yh, kh, rfl, hyh⟩
    · exact absurd rfl hne
    rcases hl' with ⟨rfl, rfl⟩ | ⟨yl, kl, rfl, hyl⟩
    · simp [Instr.sliceBounds, bm, bh m0.toNat _ yh kh hyh (by omega)]
    · simp [Instr.sliceBounds, bm, bh m0.toNat _ yh kh hyh (by omega), bl h.toNat _ yl kl hyl (by omega)]

theorem sliceAt_run {t elem : TypeId} {ie : TI} (hu : P.underlying t = some (.slice elem)) (he : TF P elem ie) {A : Option Addr} {len cap l h c : Nat} {lo hi mx : Option Value} {w : World}
    (hb : (Instr.sliceBounds true len cap lo hi mx).run P w = .ok (l, h, c) w) :
    (Instr.sliceAt t (.slice A len cap) lo hi mx).run P w = .ok (.slice (if c = l then A else A.map (·.add (l * ie.sz))) (h - l) (c - l)) w := by
  simp [Instr.sliceAt, run_underlying hu, Instr.slice, hb, sizeOf_run he]

theorem sub_rowAt {len sz l h : Nat} {C : Nat → Nat → Value → Prop} {b off : Nat} (hr : M.rowAt len sz C b off) (hh : h ≤ len) (hl : l ≤ h) : M.rowAt (h - l) sz (fun i j u => C (l + i) j u) b (off + l * sz) := by
  refine ⟨hr.1, fun i hi j hj => ?_⟩
  obtain ⟨u, hu, hc⟩ := hr.2 (l + i) (by omega) j hj
  refine ⟨u, ?_, hc⟩
  rw [← hu]
  congr 2
  rw [Nat.add_mul]
  omega

theorem rowAt_congr {len sz : Nat} {C C' : Nat → Nat → Value → Prop} {b off : Nat} (hr : M.rowAt len sz C b off) (h : ∀ i, i < len → ∀ j u, C i j u → C' i j u) : M.rowAt len sz C' b off :=
  ⟨hr.1, fun i hi j hj => let ⟨u, hu, hc⟩ := hr.2 i hi j hj; ⟨u, hu, h i hi j u hc⟩⟩

theorem stSlice_sound {ev : Operand → Option AV} {ρ : Operand → Value} {t : TypeId} {x : Operand} {lo hi mx : Option Operand} {a v : AV} {cs : List Prop} (hT : ∀ t i, T t = some i → TF P t i) (hM : MOk M)
    (hev : ∀ x v, ev x = some v → AVR M v (ρ x)) (h : stSlice T M.H ev t lo hi mx a = some (cs, v)) (ha : AVR M a (ρ x)) (hc : AllP cs) (w : World) (_hw : M.w = w) :
    ∃ u, (Instr.sliceAt t (ρ x) (lo.map ρ) (hi.map ρ) (mx.map ρ)).run P w = .ok u w ∧ AVR M v u := by
  unfold stSlice at h
  split at h
  · rename_i v0
    split at h
    · rename_i elem _ _ _ _ hi0
      have hu := kind_slice (hT _ _ hi0) rfl
      split at h
      · rename_i ie len hie hlen
        have hF := hT _ _ hie
        split at h
        · rename_i l hh hbl hbh
          split at h
          · rename_i r hr
            cases hsz : sliceSz M.H ie.sz v0
            · rw [hsz] at h; cases h
            rw [hsz] at h
            simp only [cond_true] at h
            have hmx : ∃ m, (cs = sliceBnds len l hh m) ∧ v = .one r ∧ ((mx = none ∧ m = none) ∨ ∃ x k m0, mx = some x ∧ hi ≠ none ∧ ρ x = .int k m0 ∧ m = some m0) := by
              split at h
              · simp only [Option.some.injEq, Prod.mk.injEq] at h
                obtain ⟨rfl, rfl⟩ := h
                exact ⟨none, rfl, rfl, .inl ⟨rfl, rfl⟩⟩
              · split at h
                · rename_i km m0 hm0
                  simp only [Option.some.injEq, Prod.mk.injEq] at h
                  obtain ⟨rfl, rfl⟩ := h
                  exact ⟨some m0, rfl, rfl, .inr ⟨_, km, m0, rfl, by simp, hev _ _ hm0, rfl⟩⟩
                · cases h
            obtain ⟨m, rfl, rfl, hm⟩ := hmx
            clear h
            -- the value's own form
            cases v0 <;> simp only [sliceLen, Option.some.injEq] at hlen <;> first | (cases hlen; done) | skip
            case rw id off n =>
              subst hlen
              simp only [sliceRes, nadd_eq, Option.some.injEq] at hr
              subst hr
              obtain ⟨o, ho, hon, hv⟩ := ha
              simp only [sliceSz, ho] at hsz
              have hs := Nat.eq_of_beq_eq_true hsz
              rcases hv with ⟨hz, A, hA⟩ | ⟨b, p, y, cap, hm2, hA, h2, h3, rfl, cur, e, hcur, hfit⟩
              · obtain ⟨g0, g1, g2, c, g3, g4, hb⟩ := sliceBounds_run (P := P) (len := n) (cap := 0) hev hbl hbh hm (by omega) hc w
                rw [hA]
                subst hz
                refine ⟨_, sliceAt_run hu hF hb, o, ho, by omega, .inl ⟨by omega, A, ?_⟩⟩
                rw [if_pos (by omega)]
                congr 1 <;> omega
              · obtain ⟨g0, g1, g2, c, g3, g4, hb⟩ := sliceBounds_run (P := P) hev hbl hbh hm h2 hc w
                rw [hA]
                refine ⟨_, sliceAt_run hu hF hb, o, ho, by omega, ?_⟩
                by_cases hcl : c = l.toNat
                · refine .inl ⟨by omega, some ⟨b, p + off * o.sz, none⟩, ?_⟩
                  rw [if_pos hcl]
                  congr 1 <;> omega
                · refine .inr ⟨b, p, p + (off + l.toNat) * o.sz, c - l.toNat, hm2, ?_, by omega, by omega, rfl, cur, e, hcur, ?_⟩
                  · rw [if_neg hcl, Option.map_some, ptr_add, hs]
                    congr 3
                    rw [Nat.add_mul]; omega
                  · refine Nat.le_trans (Nat.add_le_add_left (Nat.mul_le_mul_right _ ?_) _) hfit
                    omega
            case ro c0 =>
              subst hlen
              simp only [sliceRes, Option.some.injEq] at hr
              subst hr
              have hs := Nat.eq_of_beq_eq_true hsz
              obtain ⟨A, cap, hA, h2, h3, h4⟩ := ha
              obtain ⟨g0, g1, g2, c, g3, g4, hb⟩ := sliceBounds_run (P := P) hev hbl hbh hm h2 hc w
              rw [hA]
              have hlen' := C0.sub_len c0 l.toNat hh.toNat (by omega)
              refine ⟨_, sliceAt_run hu hF hb, _, _, by rw [hlen'], by omega, by omega, ?_⟩
              by_cases he0 : hh.toNat - l.toNat = 0
              · exact .inl (by rw [hlen']; exact he0)
              · rcases h4 with h4 | ⟨b, p, rfl, hr⟩
                · omega
                · refine .inr ⟨b, p + l.toNat * c0.sz, ?_, ?_⟩
                  · rw [if_neg (by omega), Option.map_some, ptr_add, hs]
                  · rw [hlen', C0.sub_sz]
                    exact rowAt_congr (sub_rowAt hr (h := hh.toNat) (l := l.toNat) (by omega) (by omega)) (fun i hi j u hu => by rw [C0.sub_cell _ _ _ _ _ hi]; exact hu)
            case rs c0 =>
              subst hlen
              simp only [sliceRes, Option.some.injEq] at hr
              subst hr
              have hs := Nat.eq_of_beq_eq_true hsz
              obtain ⟨A, cap, hA, h2, h3, h4⟩ := ha
              obtain ⟨g0, g1, g2, c, g3, g4, hb⟩ := sliceBounds_run (P := P) hev hbl hbh hm h2 hc w
              rw [hA]
              have hlen' := C1.sub_len c0 l.toNat hh.toNat (by omega)
              refine ⟨_, sliceAt_run hu hF hb, _, _, by rw [hlen'], by omega, by omega, ?_⟩
              by_cases he0 : hh.toNat - l.toNat = 0
              · exact .inl (by rw [hlen']; exact he0)
              · rcases h4 with h4 | ⟨b, p, rfl, hr⟩
                · omega
                · refine .inr ⟨b, p + l.toNat * c0.sz, ?_, ?_⟩
                  · rw [if_neg (by omega), Option.map_some, ptr_add, hs]
                  · rw [hlen', C1.sub_sz]
                    exact rowAt_congr (sub_rowAt hr (h := hh.toNat) (l := l.toNat) (by omega) (by omega)) (fun i hi j u hu => by rw [C1.sub_cell _ _ _ _ _ hi]; exact hu)
            case nils =>
              subst hlen
              simp only [sliceRes, Option.some.injEq] at hr
              subst hr
              obtain ⟨A, hA⟩ := ha
              obtain ⟨g0, g1, g2, c, g3, g4, hb⟩ := sliceBounds_run (P := P) (len := 0) (cap := 0) hev hbl hbh hm (by omega) hc w
              rw [hA]
              refine ⟨_, sliceAt_run hu hF hb, A, ?_⟩
              rw [if_pos (by omega)]
              congr 1 <;> omega
          · cases h
        · cases h
      · cases h
    · rename_i n elem _ _ _ _ _ hi0
      have hu := kind_array (hT _ _ hi0) rfl
      split at h
      · rename_i ie id i hie
        have hF := hT _ _ hie
        split at h
        · rename_i o ho
          cases hb : Nat.beq ie.sz o.sz
          · rw [hb] at h; cases h
          · rw [hb] at h
            have hs := Nat.eq_of_beq_eq_true hb
            simp only [cond_true, Option.some.injEq, Prod.mk.injEq] at h
            obtain ⟨rfl, rfl⟩ := h
            obtain ⟨h0, h1, _⟩ := hc
            obtain ⟨o', b, p, ho', hm, hA⟩ := ha
            rw [ho] at ho'
            cases ho'
            rw [hA]
            obtain ⟨cur, e, hcur, hfit, _⟩ := hM.obj id o b p ho hm
            refine ⟨.slice (some ⟨b, p + (i * o.sz + 0), none⟩) n n, ?_, o, ho, h0, ?_⟩
            · simp only [Instr.sliceAt, Option.map_none, Sem.run_bind, run_underlying hu, Result.andThen_ok, Instr.sureAddr, Sem.run_pure, Instr.sliceBounds, sizeOf_run hF, Nat.zero_mul, Addr.add_zero', Nat.sub_zero]
              split <;> rfl
            · by_cases hn : n = 0
              · subst hn
                exact .inl ⟨rfl, _, rfl⟩
              · refine .inr ⟨b, p, _, n, hm, rfl, Nat.le_refl _, h1, by rw [Nat.add_zero], cur, e, hcur, ?_⟩
                exact Nat.le_trans (Nat.add_le_add_left (Nat.mul_le_mul_right _ h0) _) hfit
        · cases h
      · cases h
    · cases h
  · cases h

theorem capsOf_sound {ev : Operand → Option AV} {ρ : Operand → Value} (hev : ∀ x v, ev x = some v → AVR M v (ρ x)) : ∀ {l : List Operand} {vs : List V1}, capsOf ev l = some vs →
    vs.length = l.length ∧ ∀ (i : Nat) (c : V1), vs[i]? = some c → ∃ u, (l.map ρ)[i]? = some u ∧ VM M c u
  | [], vs, h => by
    simp only [capsOf, Option.some.injEq] at h
    subst h
    exact ⟨rfl, fun i c hi => by simp at hi⟩
  | x :: l, vs, h => by
    unfold capsOf at h
    split at h
    · rename_i v hv
      cases hb : noFn v
      · rw [hb] at h; cases h
      · rw [hb] at h
        simp only [cond_true] at h
        split at h
        · rename_i vs' hvs
          simp only [Option.some.injEq] at h
          subst h
          obtain ⟨h1, h2⟩ := capsOf_sound hev hvs
          refine ⟨by simp [h1], fun i c hi => ?_⟩
          match i with
          | 0 =>
            simp only [List.getElem?_cons_zero, Option.some.injEq] at hi
            subst hi
            exact ⟨ρ x, by simp, VM_of_VR hb (hev _ _ hv)⟩
          | i + 1 => exact h2 i c (by simpa using hi)
        · cases h
    · cases h

theorem evs_sound {ev : Operand → Option AV} {ρ : Operand → Value} (hev : ∀ x v, ev x = some v → AVR M v (ρ x)) : ∀ {l : List Operand} {vs : List AV}, evs ev l = some vs →
    vs.length = l.length ∧ ∀ (i : Nat) (c : AV), vs[i]? = some c → ∃ u, (l.map ρ)[i]? = some u ∧ AVR M c u
  | [], vs, h => by
    simp only [evs, Option.some.injEq] at h
    subst h
    exact ⟨rfl, fun i c hi => by simp at hi⟩
  | x :: l, vs, h => by
    unfold evs at h
    split at h
    · rename_i v vs' hv hvs
      simp only [Option.some.injEq] at h
      subst h
      obtain ⟨h1, h2⟩ := evs_sound hev hvs
      refine ⟨by simp [h1], fun i c hi => ?_⟩
      match i with
      | 0 =>
        simp only [List.getElem?_cons_zero, Option.some.injEq] at hi
        subst hi
        exact ⟨ρ x, by simp, hev _ _ hv⟩
      | i + 1 => exact h2 i c (by simpa using hi)
    · cases h

theorem foldMin_sound {k : IntKind} {w : World} : ∀ {r : List AV} {us : List Value} {a n : Int}, foldMin r a = some n → r.length = us.length → (∀ (i : Nat) (c : AV), r[i]? = some c → ∃ u, us[i]? = some u ∧ AVR M c u) →
    (us.foldlM Builtin.min2 (.int k a)).run P w = .ok (.int k n) w
  | [], [], a, n, h, _, _ => by simp only [foldMin, Option.some.injEq] at h; subst h; simp
  | [], _ :: _, _, _, _, hl, _ => by simp at hl
  | _ :: _, [], _, _, _, hl, _ => by simp at hl
  | x :: r, u :: us, a, n, h, hl, hx => by
    simp only [foldMin] at h
    split at h
    · rename_i k' b
      obtain ⟨u', hu', hv⟩ := hx 0 _ rfl
      simp only [List.getElem?_cons_zero, Option.some.injEq] at hu'
      subst hu'
      have e := VR_int hv
      subst e
      have hb : (if b < a then b else a) = min a b := by omega
      simp only [List.foldlM_cons, Builtin.min2, Sem.run_bind, Sem.run_pure, Result.andThen_ok, hb]
      exact foldMin_sound h (by simpa using hl) (fun i c hi => hx (i + 1) c (by simpa using hi))
    · cases h

theorem foldMax_sound {k : IntKind} {w : World} : ∀ {r : List AV} {us : List Value} {a n : Int}, foldMax r a = some n → r.length = us.length → (∀ (i : Nat) (c : AV), r[i]? = some c → ∃ u, us[i]? = some u ∧ AVR M c u) →
    (us.foldlM Builtin.max2 (.int k a)).run P w = .ok (.int k n) w
  | [], [], a, n, h, _, _ => by simp only [foldMax, Option.some.injEq] at h; subst h; simp
  | [], _ :: _, _, _, _, hl, _ => by simp at hl
  | _ :: _, [], _, _, _, hl, _ => by simp at hl
  | x :: r, u :: us, a, n, h, hl, hx => by
    simp only [foldMax] at h
    split at h
    · rename_i k' b
      obtain ⟨u', hu', hv⟩ := hx 0 _ rfl
      simp only [List.getElem?_cons_zero, Option.some.injEq] at hu'
      subst hu'
      have e := VR_int hv
      subst e
      have hb : (if b > a then b else a) = max a b := by omega
      simp only [List.foldlM_cons, Builtin.max2, Sem.run_bind, Sem.run_pure, Result.andThen_ok, hb]
      exact foldMax_sound h (by simpa using hl) (fun i c hi => hx (i + 1) c (by simpa using hi))
    · cases h

theorem sliceLen_sound {v : V1} {n : Nat} {u : Value} (h : sliceLen v = some n) (hv : AVR M (.one v) u) : ∃ A cap, u = .slice A n cap := by
  cases v <;> simp only [sliceLen, Option.some.injEq] at h <;> first | (cases h; done) | skip
  case rw =>
    subst h
    obtain ⟨o, _, _, ⟨rfl, A, rfl⟩ | ⟨b, p, a, cap, _, rfl, _⟩⟩ := hv
    · exact ⟨_, _, rfl⟩
    · exact ⟨_, _, rfl⟩
  case nils => subst h; obtain ⟨A, rfl⟩ := hv; exact ⟨_, _, rfl⟩
  case ro => subst h; obtain ⟨A, cap, rfl, _⟩ := hv; exact ⟨_, _, rfl⟩
  case rs => subst h; obtain ⟨A, cap, rfl, _⟩ := hv; exact ⟨_, _, rfl⟩

theorem stLen_sound {t : TypeId} {a v : AV} {ua : Value} {cs : List Prop} {ty : TypeId} (hT : ∀ t i, T t = some i → TF P t i) (h : stLen T t a = some (cs, v)) (ha : AVR M a ua) (w : World) :
    ∃ u, (Builtin.len_ #[t] ty #[ua]).run P w = .ok u w ∧ AVR M v u := by
  unfold stLen at h
  split at h
  · rename_i v0
    split at h
    · rename_i hi
      have hu := kind_slice (hT _ _ hi) rfl
      split at h
      · rename_i n hn
        simp only [ret1, Option.some.injEq, Prod.mk.injEq] at h
        obtain ⟨rfl, rfl⟩ := h
        obtain ⟨A, cap, rfl⟩ := sliceLen_sound hn ha
        exact ⟨.int .i64 n, by simp [Builtin.len_, run_underlying hu, goInt], rfl⟩
      · cases h
    · rename_i n _ _ _ _ _ _ hi
      have hu := kind_array (hT _ _ hi) rfl
      simp only [ret1, Option.some.injEq, Prod.mk.injEq] at h
      obtain ⟨rfl, rfl⟩ := h
      exact ⟨.int .i64 n, by simp [Builtin.len_, run_underlying hu, goInt], rfl⟩
    · rename_i hi
      have hu := kind_string (hT _ _ hi) rfl
      split at h
      · rename_i s
        have e := VR_str ha
        subst e
        simp only [ret1, Option.some.injEq, Prod.mk.injEq] at h
        obtain ⟨rfl, rfl⟩ := h
        exact ⟨.int .i64 s.size, by simp [Builtin.len_, run_underlying hu, goInt], rfl⟩
      · cases h
    · cases h
  · cases h

theorem partsCells_sound {ev : Operand → Option AV} {ρ : Operand → Value} (hev : ∀ x v, ev x = some v → AVR M v (ρ x)) : ∀ {l : List (Nat × Operand)} {ps : List (Nat × List V1)}, partsCells ev l = some ps →
    ps.length = (l.map fun (p : Nat × Operand) => (p.1, ρ p.2)).length ∧ ∀ (i : Nat) (p : Nat × List V1), ps[i]? = some p → ∃ q : Nat × Value, (l.map fun (p : Nat × Operand) => (p.1, ρ p.2))[i]? = some q ∧ q.1 = p.1 ∧ CellsR M p.2 q.2.cells
  | [], ps, h => by
    simp only [partsCells, Option.some.injEq] at h
    subst h
    exact ⟨rfl, fun i p hi => by simp at hi⟩
  | (k, x) :: l, ps, h => by
    unfold partsCells at h
    split at h
    · cases h
    · rename_i v hv
      split at h
      · cases h
      · rename_i vs hvs
        split at h
        · cases h
        · rename_i ps' hps
          simp only [Option.some.injEq] at h
          subst h
          obtain ⟨h1, h2⟩ := partsCells_sound hev hps
          refine ⟨by simpa using h1, fun i p hi => ?_⟩
          match i with
          | 0 =>
            simp only [List.getElem?_cons_zero, Option.some.injEq] at hi
            subst hi
            exact ⟨(k, ρ x), by simp, rfl, CellsR_cells (hev _ _ hv) hvs⟩
          | i + 1 =>
            obtain ⟨q, hq, hr⟩ := h2 i p (by simpa using hi)
            exact ⟨q, by simpa using hq, hr⟩

theorem zero_cells {t : TypeId} {i : TI} (h : TF P t i) (w : World) : ∃ z : Value, (zeroValue t).run P w = .ok z w ∧ i.zero = z.cells.toList.map ofVal ∧ (∀ u ∈ z.cells.toList, u.oneCell' = true) ∧ CellsR M i.zero z.cells := by
  obtain ⟨ti, z, hi, _, _, hz, hzz, h1⟩ := h.info
  refine ⟨z, by simp [zeroValue, typeInfo, hi, hz], hzz, h1, ?_⟩
  rw [hzz]
  simpa using CellsR_ofVal M z.cells.toList h1

theorem fields_mapM : ∀ (fs : List Field), (fs.map fun f => (f.offset, if (P.underlying f.type).isSome then P.cellsOf f.type else 0, aggB P f.type)).all (fun f => Nat.ble 1 f.2.1) = true →
    fs.mapM (fun f => (P.info? f.type).map fun i => (f.offset, i.size)) = some ((fs.map fun f => (f.offset, if (P.underlying f.type).isSome then P.cellsOf f.type else 0, aggB P f.type)).map fun f => (f.1, f.2.1))
  | [], _ => by simp
  | f :: fs, h => by
    simp only [List.map_cons, List.all_cons, Bool.and_eq_true] at h
    have ih := fields_mapM fs h.2
    have h1 := Nat.le_of_ble_eq_true h.1
    by_cases hu : (P.underlying f.type).isSome = true
    · rw [if_pos hu] at h1
      unfold Program.cellsOf at h1
      cases hi : P.info? f.type with
      | none => rw [hi] at h1; simp at h1
      | some ti =>
        simp only [List.mapM_cons, hi, Option.map_some, Option.bind_eq_bind, Option.bind_some, ih, Option.pure_def, List.map_cons, if_pos hu, Program.cellsOf, Option.getD_some]
    · rw [if_neg hu] at h1; omega

theorem stBuild_sound {ev : Operand → Option AV} {ρ : Operand → Value} (hT : ∀ t i, T t = some i → TF P t i) (hev : ∀ x v, ev x = some v → AVR M v (ρ x)) {t : TypeId} {parts : Array (Nat × Operand)} {cs : List Prop} {v : AV}
    (h : stBuild T ev t parts.toList = some (cs, v)) (w : World) : ∃ u, (Instr.build t (parts.map fun (i, x) => (i, ρ x))).run P w = .ok u w ∧ AVR M v u := by
  unfold stBuild at h
  have hparts : (parts.map fun (p : Nat × Operand) => (p.1, ρ p.2)).toList = parts.toList.map fun (p : Nat × Operand) => (p.1, ρ p.2) := by simp
  split at h
  · rename_i ps hi hps
    have hF := hT _ _ hi
    obtain ⟨fs, hu, hfl⟩ := kind_struct hF rfl
    obtain ⟨ti, z, hinfo, _, _, hz, hzz, h1⟩ := hF.info
    simp only at hfl hzz
    have hzc : CellsR M (z.cells.toList.map ofVal) z.cells := by simpa using CellsR_ofVal M z.cells.toList h1
    rw [hfl] at h
    cases hall : ((fs.toList.map fun f => (f.offset, if (P.underlying f.type).isSome then P.cellsOf f.type else 0, aggB P f.type)).all fun f => Nat.ble 1 f.2.1)
    · rw [hall] at h; cases h
    · rw [hall] at h
      simp only [cond_true] at h
      split at h
      · rename_i out hout
        simp only [Option.some.injEq, Prod.mk.injEq] at h
        obtain ⟨rfl, rfl⟩ := h
        obtain ⟨hl, hp⟩ := partsCells_sound hev hps
        rw [hzz] at hout
        obtain ⟨r, hr, hrr⟩ := fill_sound (cs := z.cells) (M := M) hout hzc hl hp
        refine ⟨.agg r, run_build (P := P) w t _ r ?_, r, rfl, hrr⟩
        rw [hparts]
        simp only [Program.built, hinfo, hu, hz, fields_mapM fs.toList hall]
        rw [← hr]
        congr 1
        funext i
        simp
      · cases h
  · rename_i n elem _ _ _ _ _ ps hi hps
    have hF := hT _ _ hi
    have hu := kind_array hF rfl
    obtain ⟨ti, z, hinfo, _, _, hz, hzz, h1⟩ := hF.info
    simp only at hzz
    have hzc : CellsR M (z.cells.toList.map ofVal) z.cells := by simpa using CellsR_ofVal M z.cells.toList h1
    split at h
    · rename_i ie hie
      obtain ⟨te, ze, hte, hse, _⟩ := (hT _ _ hie).info
      split at h
      · rename_i out hout
        simp only [Option.some.injEq, Prod.mk.injEq] at h
        obtain ⟨rfl, rfl⟩ := h
        obtain ⟨hl, hp⟩ := partsCells_sound hev hps
        rw [hzz] at hout
        obtain ⟨r, hr, hrr⟩ := fill_sound (cs := z.cells) (M := M) hout hzc hl hp
        refine ⟨.agg r, run_build (P := P) w t _ r ?_, r, rfl, hrr⟩
        rw [hparts]
        simp only [Program.built, hinfo, hu, hz, hte, hse]
        exact hr
      · cases h
    · cases h
  · cases h

theorem stNil_sound {a v : AV} {ua : Value} {cs : List Prop} {o : Oper} {ρ : Operand → Value} {x : Operand} (ho : o.op = .nilCheck x) (hx : ρ x = ua) (h : stNil a = some (cs, v)) (ha : AVR M a ua) (w : World) :
    ∃ u, (execOp ρ o).run P w = .ok (.value u) w ∧ AVR M v u := by
  unfold stNil at h
  split at h <;> (try simp only [ret1, Option.some.injEq, Prod.mk.injEq] at h) <;> first | (obtain ⟨rfl, rfl⟩ := h) | cases h
  · obtain ⟨o', b, p, _, _, rfl⟩ := id ha
    exact ⟨_, by simp [execOp, ho, hx], ha⟩
  · obtain ⟨_, _, b, p, rfl, _⟩ := id ha
    exact ⟨_, by simp [execOp, ho, hx], ha⟩
  · obtain ⟨_, _, b, p, rfl, _⟩ := id ha
    exact ⟨_, by simp [execOp, ho, hx], ha⟩
  · obtain ⟨cs, rfl, _⟩ := id ha
    exact ⟨_, by simp [execOp, ho, hx], ha⟩

theorem stBuiltin_sound {ev : Operand → Option AV} {ρ : Operand → Value} (hT : ∀ t i, T t = some i → TF P t i) (hev : ∀ x v, ev x = some v → AVR M v (ρ x)) {b : Builtin} {args : Array Operand} {types : Array TypeId} {ty : TypeId}
    {consts : Array Bool} {cs : List Prop} {v : AV} (h : stBuiltin T ev b args.toList types.toList = some (cs, v)) (w : World) :
    ∃ u, (builtin b types ty consts (args.map ρ)).run P w = .ok (.value u) w ∧ AVR M v u := by
  obtain ⟨args⟩ := args
  obtain ⟨types⟩ := types
  unfold stBuiltin at h
  simp only at h
  split at h
  · rename_i v0 t hvs
    obtain ⟨hl, hp⟩ := evs_sound hev hvs
    obtain ⟨u0, hu0, hv0⟩ := hp 0 _ rfl
    match args, hl with
    | [x], _ =>
      simp only [List.map_cons, List.map_nil, List.getElem?_cons_zero, Option.some.injEq] at hu0
      subst hu0
      obtain ⟨u, hu, hv⟩ := stLen_sound (P := P) (ty := ty) hT h hv0 w
      exact ⟨u, by simp [builtin, hu], hv⟩
  · rename_i t hvs
    obtain ⟨hl, hp⟩ := evs_sound hev hvs
    obtain ⟨u0, hu0, hv0⟩ := hp 0 _ rfl
    match args, hl with
    | [x], _ =>
      simp only [List.map_cons, List.map_nil, List.getElem?_cons_zero, Option.some.injEq] at hu0
      subst hu0
      split at h
      · rename_i hi
        have hu := kind_slice (hT _ _ hi) rfl
        simp only [ret1, Option.some.injEq, Prod.mk.injEq] at h
        obtain ⟨rfl, rfl⟩ := h
        obtain ⟨A, hA⟩ := hv0
        exact ⟨.int .i64 0, by simp [builtin, Builtin.cap_, run_underlying hu, hA, goInt], rfl⟩
      · cases h
  · rename_i k a r hvs
    obtain ⟨hl, hp⟩ := evs_sound hev hvs
    split at h
    · rename_i n hn
      simp only [ret1, Option.some.injEq, Prod.mk.injEq] at h
      obtain ⟨rfl, rfl⟩ := h
      match args, hl with
      | x :: xs, hl =>
        obtain ⟨u0, hu0, hv0⟩ := hp 0 _ rfl
        simp only [List.map_cons, List.getElem?_cons_zero, Option.some.injEq] at hu0
        have e := VR_int hv0
        have hm := foldMin_sound (P := P) (M := M) (k := k) (w := w) (us := xs.map ρ) hn (by simpa using hl) (fun i c hi => by
          obtain ⟨u, hu, hv⟩ := hp (i + 1) c (by simpa using hi)
          exact ⟨u, by simpa using hu, hv⟩)
        refine ⟨.int k n, ?_, rfl⟩
        simp only [builtin, Builtin.min_, List.map_toArray, List.map_cons, hu0, e, Sem.run_bind, hm, Result.andThen_ok, Sem.run_pure]
    · cases h
  · rename_i k a r hvs
    obtain ⟨hl, hp⟩ := evs_sound hev hvs
    split at h
    · rename_i n hn
      simp only [ret1, Option.some.injEq, Prod.mk.injEq] at h
      obtain ⟨rfl, rfl⟩ := h
      match args, hl with
      | x :: xs, hl =>
        obtain ⟨u0, hu0, hv0⟩ := hp 0 _ rfl
        simp only [List.map_cons, List.getElem?_cons_zero, Option.some.injEq] at hu0
        have e := VR_int hv0
        have hm := foldMax_sound (P := P) (M := M) (k := k) (w := w) (us := xs.map ρ) hn (by simpa using hl) (fun i c hi => by
          obtain ⟨u, hu, hv⟩ := hp (i + 1) c (by simpa using hi)
          exact ⟨u, by simpa using hu, hv⟩)
        refine ⟨.int k n, ?_, rfl⟩
        simp only [builtin, Builtin.max_, List.map_toArray, List.map_cons, hu0, e, Sem.run_bind, hm, Result.andThen_ok, Sem.run_pure]
    · cases h
  · cases h

/-- ONE STEP THAT CHANGES NO MEMORY IS SOUND. -/
theorem stepPure_sound {ev : Operand → Option AV} {ρ : Operand → Value} {o : Oper} {cs : List Prop} {v : AV} (hT : ∀ t i, T t = some i → TF P t i) (hM : MOk M) (hev : ∀ x v, ev x = some v → AVR M v (ρ x))
    (h : stepPure T M.H ev o.op = some (cs, v)) (hc : AllP cs) : ∃ u, (execOp ρ o).run P M.w = .ok (.value u) M.w ∧ AVR M v u := by
  cases ho : o.op <;> rw [ho] at h <;> simp only [stepPure] at h <;> first | (cases h; done) | skip
  case move x =>
    simp only [Option.map_eq_some_iff, Prod.mk.injEq] at h
    obtain ⟨a, ha, rfl, rfl⟩ := h
    exact ⟨ρ x, by simp [execOp, ho], hev _ _ ha⟩
  case assign x =>
    simp only [Option.map_eq_some_iff, Prod.mk.injEq] at h
    obtain ⟨a, ha, rfl, rfl⟩ := h
    exact ⟨ρ x, by simp [execOp, ho], hev _ _ ha⟩
  case build t parts =>
    obtain ⟨u, hu, hv⟩ := stBuild_sound (P := P) hT hev h M.w
    exact ⟨u, by simp only [execOp, ho, Sem.run_bind, hu, Result.andThen_ok, Sem.run_pure], hv⟩
  case nilCheck x =>
    split at h
    · rename_i a ha
      exact stNil_sound (P := P) ho rfl h (hev _ _ ha) M.w
    · cases h
  case binOp op t x y yt =>
    split at h
    · rename_i a b ha hb
      obtain ⟨u, hu, hv⟩ := stBin_sound (P := P) (x := x) (y := y) hT h (hev _ _ ha) (hev _ _ hb) hc M.w
      exact ⟨u, by simp only [execOp, ho]; rw [Sem.run_bind, hu]; rfl, hv⟩
    · cases h
  case unOp op t x =>
    split at h
    · rename_i a ha
      obtain ⟨u, hu, hv⟩ := stUn_sound (P := P) h (hev _ _ ha) hc M.w
      exact ⟨u, by simp only [execOp, ho, Sem.run_bind, hu, Result.andThen_ok, Sem.run_pure], hv⟩
    · cases h
  case convert src dst x =>
    split at h
    · rename_i a ha
      obtain ⟨u, hu, hv⟩ := stConv_sound (P := P) hT h (hev _ _ ha) hc M.w
      exact ⟨u, by simp only [execOp, ho, Sem.run_bind, hu, Result.andThen_ok, Sem.run_pure], hv⟩
    · cases h
  case makeFunc fn first caps =>
    unfold stMakeFunc at h
    split at h
    · rename_i f hfirst
      split at h
      · rename_i vs hvs
        simp only [ret1, Option.some.injEq, Prod.mk.injEq] at h
        obtain ⟨rfl, rfl⟩ := h
        obtain ⟨hl, hp⟩ := capsOf_sound hev hvs
        have hf0 : first = #[] := by cases first; simpa using hfirst
        subst hf0
        refine ⟨.func (.func f) #[] (caps.toList.map ρ).toArray, ?_, caps.toList.map ρ, rfl, by simpa using hl.symm, hp⟩
        have hmap : Array.map ρ caps = (List.map ρ caps.toList).toArray := by cases caps; simp
        simp [execOp, ho, Instr.makeFunc, hmap]
      · cases h
    · cases h
  case slice t x lo hi mx =>
    split at h
    · rename_i a ha
      obtain ⟨u, hu, hv⟩ := stSlice_sound (P := P) (x := x) hT hM hev h (hev _ _ ha) hc M.w rfl
      exact ⟨u, by simp only [execOp, ho, Sem.run_bind, hu, Result.andThen_ok, Sem.run_pure], hv⟩
    · cases h
  case fieldAddr t x f =>
    split at h
    · rename_i a ha
      obtain ⟨u, hu, hv⟩ := stFieldAddr_sound (P := P) hT h (hev _ _ ha)
      exact ⟨u, by simp only [execOp, ho, Sem.run_bind, hu, Result.andThen_ok, Sem.run_pure], hv⟩
    · cases h
  case field t x f =>
    split at h
    · rename_i a ha
      obtain ⟨u, hu, hv⟩ := stField_sound (P := P) hT h (hev _ _ ha) M.w
      exact ⟨u, by simp only [execOp, ho, Sem.run_bind, hu, Result.andThen_ok, Sem.run_pure], hv⟩
    · cases h
  case indexAddr t x i =>
    split at h
    · rename_i a b ha hb
      obtain ⟨u, hu, hv⟩ := stIndexAddr_sound (P := P) hT h (hev _ _ ha) (hev _ _ hb) hc
      exact ⟨u, by simp only [execOp, ho, Sem.run_bind, hu, Result.andThen_ok, Sem.run_pure], hv⟩
    · cases h
  case index t x i =>
    split at h
    · rename_i a b ha hb
      obtain ⟨u, hu, hv⟩ := stIndex_sound (P := P) hT h (hev _ _ ha) (hev _ _ hb) hc M.w
      exact ⟨u, by simp only [execOp, ho, Sem.run_bind, hu, Result.andThen_ok, Sem.run_pure], hv⟩
    · cases h
  case extract x i =>
    split at h
    · rename_i a ha
      obtain ⟨u, hu, hv⟩ := stExtract_sound (P := P) h (hev _ _ ha) M.w
      exact ⟨u, by simp only [execOp, ho, Sem.run_bind, hu, Result.andThen_ok, Sem.run_pure], hv⟩
    · cases h
  case call c =>
    obtain ⟨callee, args, types⟩ := c
    split at h
    · rename_i b hb
      simp only at hb
      subst hb
      obtain ⟨u, hu, hv⟩ := stBuiltin_sound (P := P) (ty := o.type) (consts := args.map fun | .const _ => true | _ => false) hT hev h M.w
      exact ⟨u, by simp only [execOp, ho, resolve, Sem.run_bind, Sem.run_pure, Result.andThen_ok, invoke]; exact hu, hv⟩
    · cases h

end
end Go.Ab
