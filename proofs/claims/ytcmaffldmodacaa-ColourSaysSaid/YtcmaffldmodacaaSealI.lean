/- The abstract machine: a box that holds a number is given up: it is read, and no more. -/
import Derived.Test.YtcmaffldmodacaaAbC
namespace Go.Ab
open Go
def intV (id : Nat) (xs : Int) : V1 → V1
  | .rw x off len => cond (Nat.beq x id) .any (.rw x off len)
  | .ptr x i j => cond (Nat.beq x id) (cond (Nat.beq i 0 && Nat.beq j 0) (.rp (.ints .i64 [xs]) 0 0) .any) (.ptr x i j)
  | v => v
def sealI (id : Nat) (s : St) : Option St :=
  match look id s.hp with
  | some (.box 1 1 [.int .i64 xs]) => cond (big id) (some ⟨s.n, mapV (liftA (intV id xs)) s.tm, mapV (liftO (intV id xs)) (del id s.hp)⟩) none
  | _ => none
theorem intV_low (id : Nat) (xs : Int) (v : V1) (h : v.low = true) (_ : noFn v = true) : intV id xs v = v := by cases v <;> first | rfl | cases h
theorem awk_seali (id : Nat) {s s' : St} (h : sealI id s = some s') : AWk s s' := fun M a hr => by
  unfold sealI at h
  split at h
  · rename_i xs ho
    cases hbig : big id
    · rw [hbig] at h; cases h
    · rw [hbig] at h
      simp only [cond_true, Option.some.injEq] at h
      subst h
      generalize hoo : Obj.box 1 1 [V1.int IntKind.i64 xs] = o at ho
      rw [← hr.hp] at ho
      have hM := hr.ok
      have hpl : o.plain = true := by subst hoo; rfl
      let M' : Mem := ⟨M.μ, mapV (liftO (intV id xs)) (del id s.hp), M.w, fun b => M.free b ∨ ∃ p, M.μ (id, none) = some (b, p)⟩
      have hlk : ∀ (x : Key) o', lk M'.H x = some o' → x.1 ≠ id ∧ ∃ o1, lk M.H x = some o1 ∧ o' = liftO (intV id xs) o1 := by
        intro x o' h
        have h' : lk (mapV (liftO (intV id xs)) (del id s.hp)) x = some o' := h
        rw [lk_lift, Option.map_eq_some_iff] at h'
        obtain ⟨o1, h1, rfl⟩ := h'
        by_cases hx : x.1 = id
        · obtain ⟨x1, r⟩ := x
          simp only at hx
          subst hx
          rw [lk_del_self] at h1; cases h1
        · rw [lk_del_ne hx] at h1
          exact ⟨hx, o1, by rw [hr.hp]; exact h1, rfl⟩
      have hlk' : ∀ (x : Key) o1, x.1 ≠ id → lk M.H x = some o1 → lk M'.H x = some (liftO (intV id xs) o1) := by
        intro x o1 hx h1
        show lk (mapV (liftO (intV id xs)) (del id s.hp)) x = _
        rw [lk_lift, lk_del_ne hx, ← hr.hp, h1]; rfl
      have hlive : ∀ b, M'.live b → M.live b := by
        rintro b ⟨x, o', p, h1, h2⟩
        obtain ⟨_, o1, h3, _⟩ := hlk x o' h1
        exact ⟨x, o1, p, h3, h2⟩
      have hdead : ∀ b p, M.μ (id, none) = some (b, p) → ¬ M'.live b := by
        rintro b p hm ⟨x, o', q, h1, h2⟩
        obtain ⟨hx, o1, h3, _⟩ := hlk x o' h1
        exact hx (congrArg Prod.fst (hM.inj x (id, none) o1 o b q p h3 ho h2 hm))
      have hkeep : Keep M M' := ⟨rfl, rfl, rfl, Nat.le_refl _, Nat.le_refl _, fun b _ hl => ⟨rfl, fun h => hl (hlive b h)⟩, fun b h => .inl h, fun b h => by
        rcases h with h | ⟨p, h⟩
        · exact .inl h
        · exact .inr (.inl ⟨(id, none), o, p, ho, h⟩)⟩
      have hrow : ∀ b p, M.μ (id, none) = some (b, p) → M'.rowAt o.len o.sz (fun i j u => VR M (o.cell i j) u) b p := by
        intro b p hm
        obtain ⟨cur, e, g1, g2, g3⟩ := hM.obj (id, none) o b p ho hm
        refine ⟨⟨.inr ⟨p, hm⟩, hdead b p hm⟩, fun i hi j hj => ?_⟩
        obtain ⟨u, k1, k2, k3⟩ := g3 i hi j hj
        exact ⟨u, (cell_of_row _ _ _ _ _ _ g1).trans k1, k3⟩
      have hturn : Turns (intV id xs) M M' := by
        intro v u hn hv
        have hnf : noFn (intV id xs v) = true := by
          cases v <;> first | rfl | (cases hn; done) | skip
          · simp only [intV]; cases Nat.beq _ id <;> first | rfl | (cases (Nat.beq _ 0 && Nat.beq _ 0) <;> rfl)
          · simp only [intV]; cases Nat.beq _ id <;> rfl
        refine ⟨hnf, ?_⟩
        by_cases hlow : v.low = true
        · rw [intV_low id xs v hlow hn, VM_low hlow]
          rw [VM_low hlow] at hv
          exact VF_keep hkeep hv
        · cases v <;> first | exact absurd rfl hlow | skip
          case ptr x i j =>
            simp only [intV]
            by_cases hx : x = id
            · subst hx
              rw [beq_self]
              simp only [cond_true]
              cases hij : (Nat.beq i 0 && Nat.beq j 0)
              · exact VM_oneCell hv
              · simp only [Bool.and_eq_true] at hij
                obtain ⟨hi0, hj0⟩ := hij
                obtain rfl := Nat.eq_of_beq_eq_true hi0
                obtain rfl := Nat.eq_of_beq_eq_true hj0
                obtain ⟨o1, b, p, h1, h2, rfl⟩ := hv
                rw [lk_none, ho] at h1
                cases h1
                obtain ⟨hfree, hcell⟩ := hrow b p h2
                subst hoo
                refine ⟨(show 0 < 1 by omega), (show 0 < 1 by omega), b, p, rfl, hfree, fun i' hi' j' hj' => ?_⟩
                have hi2 : i' < 1 := hi'
                have hj2 : j' < 1 := hj'
                obtain rfl : i' = 0 := by omega
                obtain rfl : j' = 0 := by omega
                obtain ⟨u, k1, k2⟩ := hcell 0 (by show 0 < 1; omega) 0 (by show 0 < 1; omega)
                exact ⟨u, k1, k2⟩
            · rw [beq_ne hx]
              obtain ⟨o1, b, p, h1, h2, rfl⟩ := hv
              exact ⟨_, b, p, hlk' (x, none) o1 hx h1, h2, by rw [liftO_sz]⟩
          case mptr x i j =>
            obtain ⟨o1, b, p, h1, h2, rfl⟩ := hv
            have hx : x ≠ id := by rintro rfl; exact lk_plain ho hpl h1
            exact ⟨_, b, p, hlk' (x, some i) o1 hx h1, h2, by rw [liftO_sz]⟩
          case mrow x i len =>
            obtain ⟨o1, h1, h2, h3⟩ := hv
            have hx : x ≠ id := by rintro rfl; exact lk_plain ho hpl h1
            exact ⟨_, hlk' (x, some i) o1 hx h1, by rw [liftO_len]; exact h2, h3⟩
          case rw x off len =>
            simp only [intV]
            by_cases hx : x = id
            · subst hx
              rw [beq_self]
              exact VM_oneCell hv
            · rw [beq_ne hx]
              obtain ⟨o1, h1, h2, h3⟩ := hv
              refine ⟨_, hlk' (x, none) o1 hx h1, by rw [liftO_len]; exact h2, ?_⟩
              rw [liftO_sz]
              exact h3
          case rs c => exact roSl_mono hkeep c.sz_pos (fun _ _ _ h => VF_keep hkeep h) hv
          case rq c i j => exact roPt_mono hkeep (fun _ _ _ h => VF_keep hkeep h) hv
      refine ⟨M', ⟨rfl, ?_, hr.defers, hr.size, fun d v hd => ?_⟩, rfl, ⟨hkeep, fun x o1 hx h1 => ?_⟩⟩
      · refine ⟨((show Named s.hp by rw [← hr.hp]; exact hM.named).del id).lift _, fun b hb => ?_, fun x y o1 o2 b p q hx hy hmx hmy => ?_, fun x o1 hx hm => ?_, fun x o1 b p hx hm => ?_⟩
        · rcases hb with hb | ⟨p, hb⟩
          · exact ⟨(hM.fr b hb).1, fun h => (hM.fr b hb).2 (hlive b h)⟩
          · obtain ⟨cur, e, g1, _⟩ := hM.obj (id, none) o b p ho hb
            exact ⟨(Array.getElem?_eq_some_iff.1 g1).1, hdead b p hb⟩
        · obtain ⟨_, a1, h1, _⟩ := hlk x o1 hx
          obtain ⟨_, a2, h2, _⟩ := hlk y o2 hy
          exact hM.inj x y a1 a2 b p q h1 h2 hmx hmy
        · obtain ⟨_, a1, h1, rfl⟩ := hlk x o1 hx
          rw [liftO_len]; exact hM.none_ x a1 h1 hm
        · obtain ⟨_, a1, h1, rfl⟩ := hlk x o1 hx
          obtain ⟨cur, e, g1, g2, g3⟩ := hM.obj x a1 b p h1 hm
          refine ⟨cur, e, g1, by rw [liftO_len, liftO_sz]; exact g2, fun i hi j hj => ?_⟩
          rw [liftO_len] at hi
          rw [liftO_sz] at hj ⊢
          obtain ⟨u, k1, k2, k3⟩ := g3 i hi j hj
          exact ⟨u, k1, k2, liftO_cell hturn (intV_low id xs) (fun _ _ _ => rfl) k3⟩
      · have hd' : look d (mapV (liftA (intV id xs)) s.tm) = some v := hd
        rw [look_mapV, Option.map_eq_some_iff] at hd'
        obtain ⟨v0, h0, rfl⟩ := hd'
        obtain ⟨u, hu, hv⟩ := hr.tm d v0 h0
        exact ⟨u, hu, AVR_lift hturn hv⟩
      · have hxi : x.1 ≠ id := by
          intro e
          rw [e, hbig] at hx; cases hx
        exact ⟨_, hlk' x o1 hxi h1, liftO_sz _ _, by rw [liftO_len]; exact Nat.le_refl _, rfl, fun b p cur e _ hc => ⟨cur, hc, rfl⟩⟩
  · cases h
end Go.Ab
