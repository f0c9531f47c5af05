/- The abstract machine: a row is appended to a table. -/
import Derived.Test.YtakfbagokponeaaAbC
namespace Go.Ab
open Go
/-- What is forgotten, when the block R becomes the last row of the table A. -/
def dropW (A R : Nat) : V1 → V1
  | .rw x off len => cond (Nat.beq x R || Nat.beq x A) .any (.rw x off len)
  | .ptr x i j => cond (Nat.beq x R || Nat.beq x A) .any (.ptr x i j)
  | .mrow x i len => cond (Nat.beq x A) .any (.mrow x i len)
  | .mptr x i j => cond (Nat.beq x A) .any (.mptr x i j)
  | v => v
theorem dropW_low (A R : Nat) (v : V1) (h : v.low = true) (_ : noFn v = true) : dropW A R v = v := by cases v <;> first | rfl | cases h
/-- The heap behind that. -/
def pushH (A R : Nat) (xss : List (List Int)) (ys : List Int) (hp : Heap) : Heap := ins A (.mat A (xss ++ [ys])) (mapV (liftO (dropW A R)) (del R hp))

theorem rowPush_mem {M : Mem} (hM : MOk M) {A R : Nat} {xss : List (List Int)} {ys : List Int} (hA : look A M.H = some (.mat A xss)) (hR : look R M.H = some (.flat (.ints .i64 ys))) (hbA : big A = true) (hbR : big R = true)
    {w1 : World} {bA pA cap : Nat} {cur : Array Value} {e : TypeId} {uR : Value} (f1 : w1.os = M.w.os) (f2 : w1.tape = M.w.tape) (f3 : w1.output = M.w.output) (f4 : M.w.drawn ≤ w1.drawn) (f5 : M.w.heap.size ≤ w1.heap.size)
    (f6 : ∀ b, b < M.w.heap.size → b ≠ bA → w1.heap[b]? = M.w.heap[b]?) (f7 : w1.heap[bA]? = some (.cells cur e (0, 0))) (f8 : pA + cap ≤ cur.size) (f9 : xss.length + 1 ≤ cap) (f10 : cap ≤ maxLen)
    (f11 : M.w.heap.size ≤ bA ∨ ∃ p, M.μ (A, none) = some (bA, p))
    (f13 : ∀ r, r < xss.length → ∃ u, cur[pA + r]? = some u ∧ u.oneCell' = true ∧ M.keyRow (A, some r) (xss.getD r []).length u) (f14 : cur[pA + xss.length]? = some uR) (f15 : uR.oneCell' = true) (f16 : VR M (.rw R 0 ys.length) uR) :
    ∃ M' : Mem, M'.w = w1 ∧ M'.H = pushH A R xss ys M.H ∧ MOk M' ∧ Ext big M M' ∧ Turns (dropW A R) M M' ∧ VR M' (.rw A 0 (xss.length + 1)) (.slice (some ⟨bA, pA, none⟩) (xss.length + 1) cap) := by
  have hAR : A ≠ R := by rintro rfl; rw [hA] at hR; cases hR
  let μ' : Key → Option (Nat × Nat) := fun k => if k = (A, none) then some (bA, pA) else if k = (A, some xss.length) then M.μ (R, none) else M.μ k
  let M' : Mem := ⟨μ', pushH A R xss ys M.H, w1, M.free⟩
  have hlen' : (xss ++ [ys]).length = xss.length + 1 := by rw [List.length_append]; rfl
  have hget : ∀ r, r < xss.length + 1 → (xss ++ [ys]).getD r [] = if r = xss.length then ys else xss.getD r [] := by
    intro r hr
    rw [List.getD_eq_getElem?_getD]
    by_cases h : r = xss.length
    · subst h; rw [if_pos rfl, List.getElem?_append_right (Nat.le_refl _)]; simp
    · rw [if_neg h, List.getElem?_append_left (by omega), List.getD_eq_getElem?_getD]
  have hμA : M'.μ (A, none) = some (bA, pA) := if_pos rfl
  have hμi : M'.μ (A, some xss.length) = M.μ (R, none) := by
    show (if (A, some xss.length) = (A, none) then _ else if (A, some xss.length) = (A, some xss.length) then M.μ (R, none) else _) = _
    rw [if_neg (by simp), if_pos rfl]
  have hμo : ∀ k : Key, k ≠ (A, none) → k ≠ (A, some xss.length) → M'.μ k = M.μ k := fun k h1 h2 => by
    show (if k = (A, none) then _ else if k = (A, some xss.length) then _ else M.μ k) = _
    rw [if_neg h1, if_neg h2]
  have lkA : look A M'.H = some (.mat A (xss ++ [ys])) := look_ins_same _ _ _
  have lkAr : ∀ r, r < xss.length + 1 → lk M'.H (A, some r) = some (.flat (.ints .i64 (if r = xss.length then ys else xss.getD r []))) := fun r hr' => by
    rw [lk_of_row lkA (by rw [hlen']; exact hr'), hget r hr']
  have lkAr' : ∀ r o', lk M'.H (A, some r) = some o' → r < xss.length + 1 ∧ o' = .flat (.ints .i64 (if r = xss.length then ys else xss.getD r [])) := fun r o' h => by
    obtain ⟨_, xs2, h2, h3, rfl⟩ := lk_row h
    rw [lkA] at h2
    cases h2
    rw [hlen'] at h3
    exact ⟨h3, by rw [hget r h3]⟩
  have lkO : ∀ (k : Key) o', k.1 ≠ A → lk M'.H k = some o' → k.1 ≠ R ∧ ∃ o1, lk M.H k = some o1 ∧ o' = liftO (dropW A R) o1 := by
    intro k o' hk h
    have h' : lk (ins A (.mat A (xss ++ [ys])) (mapV (liftO (dropW A R)) (del R M.H))) k = some o' := h
    rw [lk_ins_ne hk, lk_lift, Option.map_eq_some_iff] at h'
    obtain ⟨o1, h1, rfl⟩ := h'
    by_cases hkR : k.1 = R
    · obtain ⟨k1, r⟩ := k
      simp only at hkR
      subst hkR
      rw [lk_del_self] at h1; cases h1
    · rw [lk_del_ne hkR] at h1
      exact ⟨hkR, o1, h1, rfl⟩
  have lkO' : ∀ (k : Key) o1, k.1 ≠ A → k.1 ≠ R → lk M.H k = some o1 → lk M'.H k = some (liftO (dropW A R) o1) := by
    intro k o1 hk hkR h1
    show lk (ins A (.mat A (xss ++ [ys])) (mapV (liftO (dropW A R)) (del R M.H))) k = _
    rw [lk_ins_ne hk, lk_lift, lk_del_ne hkR, h1]; rfl
  have lkR : ∀ r, lk M.H (R, some r) = none := fun r => by
    cases h : lk M.H (R, some r) with
    | none => rfl
    | some o => exact (lk_plain hR rfl h).elim
  have szA : ∀ b q (k : Key) o, lk M.H k = some o → M.μ k = some (b, q) → b < M.w.heap.size := fun b q k o h1 h2 => by
    obtain ⟨c, e0, h3, _⟩ := hM.obj k o b q h1 h2
    exact (Array.getElem?_eq_some_iff.1 h3).1
  -- where a block was before
  have back : ∀ (k : Key) o', k ≠ (A, none) → lk M'.H k = some o' → ∃ o0, lk M.H (if k = (A, some xss.length) then (R, none) else k) = some o0 ∧ M'.μ k = M.μ (if k = (A, some xss.length) then (R, none) else k) ∧ (k ≠ (A, some xss.length) → k.1 ≠ R) ∧ o'.len = o0.len := by
    intro k o' hkn h
    by_cases hk : k = (A, some xss.length)
    · subst hk
      rw [if_pos rfl]
      obtain ⟨_, rfl⟩ := lkAr' _ o' h
      rw [if_pos rfl]
      exact ⟨_, hR, hμi, fun h => absurd rfl h, rfl⟩
    · rw [if_neg hk]
      by_cases hkA : k.1 = A
      · obtain ⟨k1, r⟩ := k
        simp only at hkA
        subst hkA
        cases r with
        | none => exact absurd rfl hkn
        | some r =>
          obtain ⟨h1, rfl⟩ := lkAr' r o' h
          have hri : r ≠ xss.length := by rintro rfl; exact hk rfl
          rw [if_neg hri]
          exact ⟨_, lk_of_row hA (by omega), hμo _ hkn hk, fun _ => hAR, rfl⟩
      · obtain ⟨h1, o1, h2, rfl⟩ := lkO k o' hkA h
        exact ⟨o1, h2, hμo _ hkn hk, fun _ => h1, liftO_len _ _⟩
  have hlive : ∀ b, M'.live b → b = bA ∨ M.live b := by
    rintro b ⟨k, o', p, h1, h2⟩
    by_cases hk : k = (A, none)
    · subst hk
      rw [hμA] at h2
      cases h2
      exact .inl rfl
    · obtain ⟨o0, h3, h4, _⟩ := back k o' hk h1
      exact .inr ⟨_, o0, p, h3, by rw [← h4]; exact h2⟩
  have hnl : ∀ b, b < M.w.heap.size → ¬ M.live b → b ≠ bA ∧ ¬ M'.live b := by
    intro b hb hl
    have hne : b ≠ bA := by
      rintro rfl
      rcases f11 with h | ⟨p, h⟩
      · omega
      · exact hl ⟨(A, none), _, p, hA, h⟩
    refine ⟨hne, fun h => ?_⟩
    rcases hlive b h with h | h
    · exact hne h
    · exact hl h
  have hkeep : Keep M M' := ⟨f1, f2, f3, f4, f5, fun b hb hl => ⟨f6 b hb (hnl b hb hl).1, (hnl b hb hl).2⟩, fun _ h => h, fun _ h => .inl h⟩
  have hmem : ∀ b q (k : Key) o', k ≠ (A, none) → lk M'.H k = some o' → M'.μ k = some (b, q) → b ≠ bA := by
    rintro b q k o' hk h1 h2 rfl
    obtain ⟨o0, h3, h4, h5, _⟩ := back k o' hk h1
    rw [h4] at h2
    rcases f11 with h | ⟨p, h⟩
    · have := szA _ _ _ _ h3 h2; omega
    · have := hM.inj _ (A, none) o0 _ b q p h3 hA h2 h
      by_cases hki : k = (A, some xss.length)
      · rw [if_pos hki] at this
        exact hAR (congrArg Prod.fst this).symm
      · rw [if_neg hki] at this
        exact hk this
  have hturn : Turns (dropW A R) M M' := by
    intro v u hn' hv
    have hnf : noFn (dropW A R v) = true := by
      cases v <;> first | rfl | (cases hn'; done) | skip
      all_goals (simp only [dropW]; first | (cases Nat.beq _ _ <;> rfl) | (cases (Nat.beq _ _ || Nat.beq _ _) <;> rfl))
    refine ⟨hnf, ?_⟩
    by_cases hlow : v.low = true
    · rw [dropW_low A R v hlow hn', VM_low hlow]
      rw [VM_low hlow] at hv
      exact VF_keep hkeep hv
    · cases v <;> first | exact absurd rfl hlow | skip
      case ptr z i' j' =>
        simp only [dropW]
        by_cases hz : z = R
        · subst hz
          rw [beq_self]
          exact VM_oneCell hv
        · by_cases hzA : z = A
          · subst hzA
            rw [beq_self, Bool.or_true]
            exact VM_oneCell hv
          · rw [beq_ne hz, beq_ne hzA]
            obtain ⟨o1, b, p, h1, h2, rfl⟩ := hv
            exact ⟨_, b, p, lkO' (z, none) o1 hzA hz h1, by rw [hμo (z, none) (fun e => hzA (congrArg Prod.fst e)) (by simp)]; exact h2, by rw [liftO_sz]⟩
      case rw z off len =>
        simp only [dropW]
        by_cases hz : z = R
        · subst hz
          rw [beq_self]
          exact VM_oneCell hv
        · by_cases hzA : z = A
          · subst hzA
            rw [beq_self, Bool.or_true]
            exact VM_oneCell hv
          · rw [beq_ne hz, beq_ne hzA]
            obtain ⟨o1, h1, h2, h3⟩ := hv
            refine ⟨_, lkO' (z, none) o1 hzA hz h1, by rw [liftO_len]; exact h2, ?_⟩
            rw [liftO_sz, hμo (z, none) (fun e => hzA (congrArg Prod.fst e)) (by simp)]
            rcases h3 with h3 | ⟨b, p, a1, cap, m1, m2, m3, m4, m5, c1, e1, m6, m7⟩
            · exact .inl h3
            · have hb : b ≠ bA := by
                rintro rfl
                rcases f11 with h | ⟨p', h⟩
                · have := szA _ _ _ _ h1 m1; omega
                · exact hzA (congrArg Prod.fst (hM.inj _ (A, none) o1 _ b p p' h1 hA m1 h))
              exact .inr ⟨b, p, a1, cap, m1, m2, m3, m4, m5, c1, e1, (f6 b (szA _ _ _ _ h1 m1) hb).trans m6, m7⟩
      case mptr z i' j' =>
        simp only [dropW]
        by_cases hz : z = A
        · subst hz
          rw [beq_self]
          exact VM_oneCell hv
        · rw [beq_ne hz]
          obtain ⟨o1, b, p, h1, h2, rfl⟩ := hv
          have hzR : z ≠ R := by rintro rfl; rw [lkR] at h1; cases h1
          exact ⟨_, b, p, lkO' (z, some i') o1 hz hzR h1, by rw [hμo (z, some i') (by simp) (fun e => hz (congrArg Prod.fst e))]; exact h2, by rw [liftO_sz]⟩
      case mrow z i' len =>
        simp only [dropW]
        by_cases hz : z = A
        · subst hz
          rw [beq_self]
          exact VM_oneCell hv
        · rw [beq_ne hz]
          obtain ⟨o1, h1, h2, h3⟩ := hv
          have hzR : z ≠ R := by rintro rfl; rw [lkR] at h1; cases h1
          refine ⟨_, lkO' (z, some i') o1 hz hzR h1, by rw [liftO_len]; exact h2, ?_⟩
          rw [hμo (z, some i') (by simp) (fun e => hz (congrArg Prod.fst e))]
          exact h3
      case rs c => exact roSl_mono hkeep c.sz_pos (fun _ _ _ h => VF_keep hkeep h) hv
      case rq c i j => exact roPt_mono hkeep (fun _ _ _ h => VF_keep hkeep h) hv
  have hok : MOk M' := by
    refine ⟨(((hM.named.del R).lift _).ins (fun _ _ h => by cases h; rfl)), fun b hb => ⟨Nat.lt_of_lt_of_le (hM.fr b hb).1 hkeep.size, (hnl b (hM.fr b hb).1 (hM.fr b hb).2).2⟩, fun k1 k2 o1 o2 b p q h1 h2 m1 m2 => ?_, fun k o' h hm => ?_, fun k o' b p h hm => ?_⟩
    · by_cases e1 : k1 = (A, none)
      · by_cases e2 : k2 = (A, none)
        · rw [e1, e2]
        · rw [e1, hμA] at m1
          cases m1
          exact absurd rfl (hmem _ _ k2 o2 e2 h2 m2)
      · by_cases e2 : k2 = (A, none)
        · rw [e2, hμA] at m2
          cases m2
          exact absurd rfl (hmem _ _ k1 o1 e1 h1 m1)
        · obtain ⟨a1, g1, g2, g3, _⟩ := back k1 o1 e1 h1
          obtain ⟨a2, g4, g5, g6, _⟩ := back k2 o2 e2 h2
          rw [g2] at m1
          rw [g5] at m2
          have := hM.inj _ _ a1 a2 b p q g1 g4 m1 m2
          by_cases e1 : k1 = (A, some xss.length) <;> by_cases e2 : k2 = (A, some xss.length)
          · rw [e1, e2]
          · rw [if_pos e1, if_neg e2] at this
            exact absurd (congrArg Prod.fst this).symm (g6 e2)
          · rw [if_neg e1, if_pos e2] at this
            exact absurd (congrArg Prod.fst this) (g3 e1)
          · rw [if_neg e1, if_neg e2] at this
            exact this
    · have hkn : k ≠ (A, none) := by rintro rfl; rw [hμA] at hm; cases hm
      obtain ⟨o0, h1, h2, _, h3⟩ := back k o' hkn h
      rw [h3]
      exact hM.none_ _ o0 h1 (by rw [← h2]; exact hm)
    · by_cases hkn : k = (A, none)
      · subst hkn
        have h' : look A M'.H = some o' := h
        rw [lkA] at h'
        cases h'
        rw [hμA] at hm
        cases hm
        refine ⟨cur, e, f7, by show pA + (xss ++ [ys]).length * 1 ≤ _; rw [hlen']; omega, fun r hr' j hj => ?_⟩
        have hr2 : r < xss.length + 1 := by have : r < (xss ++ [ys]).length := hr'; omega
        have hj0 : j = 0 := by have : j < 1 := hj; omega
        subst hj0
        show ∃ u, cur[pA + (r * 1 + 0)]? = some u ∧ u.oneCell' = true ∧ M'.keyRow (A, some r) ((xss ++ [ys]).getD r []).length u
        rw [hget r hr2, show pA + (r * 1 + 0) = pA + r by omega]
        by_cases hri : r = xss.length
        · subst hri
          rw [if_pos rfl]
          refine ⟨uR, f14, f15, _, lkAr _ hr2, by rw [if_pos rfl]; exact Nat.le_refl _, ?_⟩
          obtain ⟨oR, q1, q2, q3⟩ := f16
          rw [lk_none, hR] at q1
          cases q1
          rw [hμi]
          rcases q3 with ⟨q3, A', rfl⟩ | ⟨b, p, a1, cap, m1, m2, m3, m4, m5, _⟩
          · exact .inl ⟨q3, A', 0, rfl, Nat.zero_le _⟩
          · refine .inr ⟨b, p, cap, m1, ?_, m3, m4⟩
            rw [m2, m5, Nat.zero_mul, Nat.add_zero]
        · rw [if_neg hri]
          obtain ⟨u, k1, k2, k3⟩ := f13 r (by omega)
          refine ⟨u, k1, k2, ?_⟩
          obtain ⟨o1, q1, q2, q3⟩ := k3
          refine ⟨_, lkAr r hr2, by rw [if_neg hri]; exact Nat.le_refl _, ?_⟩
          rw [hμo (A, some r) (by simp) (fun e => hri (Option.some.inj (congrArg Prod.snd e)))]
          exact q3
      · have hbb := hmem b p k o' hkn h hm
        have hold : ∀ c e0, M.w.heap[b]? = some (Go.Obj.cells c e0 (0, 0)) → w1.heap[b]? = some (Go.Obj.cells c e0 (0, 0)) := fun c e0 hc => (f6 b (Array.getElem?_eq_some_iff.1 hc).1 hbb).trans hc
        by_cases hkA : k.1 = A
        · obtain ⟨k1, r⟩ := k
          simp only at hkA
          subst hkA
          cases r with
          | none => exact absurd rfl hkn
          | some r =>
            obtain ⟨o0, g1, g2, _⟩ := back _ o' hkn h
            obtain ⟨h1, rfl⟩ := lkAr' r o' h
            rw [g2] at hm
            obtain ⟨c1, e1, q1, q2, q3⟩ := hM.obj _ o0 b p g1 hm
            have ho0 : o0 = .flat (.ints .i64 (if r = xss.length then ys else xss.getD r [])) := by
              by_cases hri : r = xss.length
              · subst hri
                rw [if_pos rfl] at g1 ⊢
                rw [lk_none, hR] at g1
                exact (Option.some.inj g1).symm
              · rw [if_neg (fun e => hri (Option.some.inj (congrArg Prod.snd e))), lk_of_row hA (by omega)] at g1
                rw [if_neg hri]
                exact (Option.some.inj g1).symm
            subst ho0
            refine ⟨c1, e1, hold _ _ q1, q2, fun i' hi' j hj => ?_⟩
            obtain ⟨u, w1, w2, w3⟩ := q3 i' hi' j hj
            exact ⟨u, w1, w2, C0_cell_VR (c := .ints .i64 (if r = xss.length then ys else xss.getD r [])) (i := i') (j := j) (C0_cell_back (M := M) (i := i') (j := j) w3)⟩
        · obtain ⟨hkR, o1, h1, rfl⟩ := lkO k o' hkA h
          rw [hμo k (fun e => hkA (congrArg Prod.fst e)) (fun e => hkA (congrArg Prod.fst e))] at hm
          obtain ⟨c1, e1, q1, q2, q3⟩ := hM.obj k o1 b p h1 hm
          refine ⟨c1, e1, hold _ _ q1, by rw [liftO_len, liftO_sz]; exact q2, fun i' hi' j hj => ?_⟩
          rw [liftO_len] at hi'
          rw [liftO_sz] at hj ⊢
          obtain ⟨u, w1, w2, w3⟩ := q3 i' hi' j hj
          refine ⟨u, w1, w2, liftO_cellM hturn (dropW_low A R) (fun z zs hz i2 n2 => ?_) w3⟩
          have hzx : z ≠ A := by
            subst hz
            obtain ⟨x1, r⟩ := k
            cases r with
            | none => have := hM.named x1 z zs h1; subst this; exact hkA
            | some r => obtain ⟨_, _, _, _, h5⟩ := lk_row h1; cases h5
          simp only [dropW, beq_ne hzx, cond_false]
  have hext : Ext big M M' := by
    refine ⟨hkeep, fun k o1 hk h1 => ?_⟩
    have hkA : k.1 ≠ A := by intro e; rw [e, hbA] at hk; cases hk
    have hkR : k.1 ≠ R := by intro e; rw [e, hbR] at hk; cases hk
    refine ⟨_, lkO' k o1 hkA hkR h1, liftO_sz _ _, by rw [liftO_len]; exact Nat.le_refl _, hμo k (fun e => hkA (congrArg Prod.fst e)) (fun e => hkA (congrArg Prod.fst e)), fun b p c e0 hm hc => ⟨c, ?_, rfl⟩⟩
    have hb : b ≠ bA := by
      rintro rfl
      rcases f11 with h | ⟨p', h⟩
      · have := szA _ _ _ _ h1 hm; omega
      · exact hkA (congrArg Prod.fst (hM.inj _ (A, none) o1 _ b p p' h1 hA hm h))
    exact (f6 b (Array.getElem?_eq_some_iff.1 hc).1 hb).trans hc
  refine ⟨M', rfl, rfl, hok, hext, hturn, _, lkA, by show 0 + (xss.length + 1) ≤ (xss ++ [ys]).length; omega, .inr ⟨bA, pA, pA, cap, hμA, rfl, f9, f10, by show pA = pA + 0 * 1; omega, cur, e, f7, ?_⟩⟩
  show pA + (0 + cap) * 1 ≤ cur.size
  omega
end Go.Ab
namespace Go.Ab
open Go
theorem rowApp_sound {P : Program} {T : Nat → Option TI} {s : St} {M : Mem} {a : Act} {o : Oper} {t : TypeId} {ti ie : TI} {x y : Operand} {A B R n : Nat} {xss : List (List Int)} {ys : List Int} (hT : ∀ t i, T t = some i → TF P t i) (hr : Rel M s a)
    (ho : o.op = .call { callee := .builtin .append, args := #[x, y], argTypes := #[t, t] }) (hti : T t = some ti) (hkd : ti.kind = .slice) (hie : T ti.elem = some ie) (hsz1 : ie.sz = 1)
    (hx : s.raw x = some (.one (.rw A 0 xss.length))) (hy : s.raw y = some (.one (.rw B 0 1))) (hA : look A s.hp = some (.mat A xss)) (hB : look B s.hp = some (.box 1 1 [.rw R 0 n])) (hR : look R s.hp = some (.flat (.ints .i64 ys)))
    (hn : n = ys.length) (hbA : big A = true) (hbR : big R = true) (hbytes : (xss.length + 1) * ie.bytes ≤ 140737488355328) (h63 : xss.length + 1 ≤ 9223372036854775807) :
    ∃ (v : Value) (M' : Mem), (execOp a.eval o).run P M.w = .ok (.value v) M'.w ∧ Ext big M M' ∧ Rel M' ⟨s.n, mapV (liftA (dropW A R)) s.tm, pushH A R xss ys s.hp⟩ a ∧ VR M' (.rw A 0 (xss.length + 1)) v := by
  subst hn
  have hM := hr.ok
  have hxv := raw_sound hr hx
  have hyv := raw_sound hr hy
  rw [← hr.hp] at hA hB hR
  have hu := kind_slice (hT _ _ hti) hkd
  have hF := hT _ _ hie
  obtain ⟨tj, zv, g1, g2, g3, g4, g5, g6⟩ := zero_len (M := M) hF
  rw [hsz1] at g2
  have hzs : zv.cells.size = 1 := by
    have := hF.szz
    rw [g5]; omega
  -- the row's header
  obtain ⟨oB, b1, b2, b3⟩ := hyv
  rw [lk_none, hB] at b1
  cases b1
  obtain ⟨bB, pB, aB, cB, b4, b5, b6, b7, b8, _⟩ := b3.resolve_left (fun q => absurd q.1 (by decide))
  obtain ⟨curB, eB, b9, b10, b11⟩ := hM.obj (B, none) _ bB pB hB b4
  obtain ⟨uR, c1, c2, c3⟩ := b11 0 (by show 0 < 1; omega) 0 (by show 0 < 1; omega)
  have hcellB : M.w.cell? ⟨bB, aB + 0, none⟩ = some uR := by
    rw [cell_of_row _ _ _ _ _ _ b9, ← c1, b8]
    rfl
  have hx1 : ∀ w' : World, w'.heap = M.w.heap → (Builtin.firstCells tj.size 1 (.slice (some ⟨bB, aB, none⟩) 1 cB)).run P w' = .ok ([uR] : List Value).toArray w' := by
    intro w' hw'
    refine firstCells_slice (by rw [g2]; rfl) (fun h => by cases h) (fun b off s hA hne => ?_)
    cases hA
    refine ⟨rfl, fun k v hk => ?_⟩
    have hk0 : k = 0 := by
      rcases Nat.eq_zero_or_pos k with q | q
      · exact q
      · rw [List.getElem?_eq_none (by simp; omega)] at hk; cases hk
    subst hk0
    have hv : v = uR := (Option.some.inj hk).symm
    rw [hv]
    exact (World.cell?_of_block (w := M.w) (w' := w') (a := ⟨bB, aB + 0, none⟩) (by rw [hw'])).trans hcellB
  have hrunop : ∀ (v : Value) (w' : World), (Builtin.append_ #[t, t] o.type #[a.eval x, a.eval y]).run P M.w = .ok v w' → (execOp a.eval o).run P M.w = .ok (.value v) w' := by
    intro v w' hr
    simp only [execOp, ho, resolve, Sem.run_bind, Sem.run_pure, Result.andThen_ok, invoke, builtin, List.map_toArray, List.map_cons, List.map_nil, hr]
  have hfin : ∀ {w1 : World} {bA pA cap : Nat} {cur : Array Value} {e : TypeId}, (Builtin.append_ #[t, t] o.type #[a.eval x, a.eval y]).run P M.w = .ok (.slice (some ⟨bA, pA, none⟩) (xss.length + 1) cap) w1 → w1.os = M.w.os → w1.tape = M.w.tape → w1.output = M.w.output → M.w.drawn ≤ w1.drawn → M.w.heap.size ≤ w1.heap.size →
      (∀ b, b < M.w.heap.size → b ≠ bA → w1.heap[b]? = M.w.heap[b]?) → w1.heap[bA]? = some (.cells cur e (0, 0)) → pA + cap ≤ cur.size → xss.length + 1 ≤ cap → cap ≤ maxLen → (M.w.heap.size ≤ bA ∨ ∃ p, M.μ (A, none) = some (bA, p)) →
      (∀ r, r < xss.length → ∃ u, cur[pA + r]? = some u ∧ u.oneCell' = true ∧ M.keyRow (A, some r) (xss.getD r []).length u) → cur[pA + xss.length]? = some uR →
      ∃ (v : Value) (M' : Mem), (execOp a.eval o).run P M.w = .ok (.value v) M'.w ∧ Ext big M M' ∧ Rel M' ⟨s.n, mapV (liftA (dropW A R)) s.tm, pushH A R xss ys s.hp⟩ a ∧ VR M' (.rw A 0 (xss.length + 1)) v := by
    intro w1 bA pA cap cur e hrun f1 f2 f3 f4 f5 f6 f7 f8 f9 f10 f11 f13 f14
    obtain ⟨M', m1, m2, m3, m4, m5, m6⟩ := rowPush_mem hM hA hR hbA hbR f1 f2 f3 f4 f5 f6 f7 f8 f9 f10 f11 f13 f14 c2 c3
    refine ⟨_, M', by rw [m1]; exact hrunop _ _ hrun, m4, ⟨by rw [m2, hr.hp], m3, hr.defers, hr.size, fun d v hd => ?_⟩, m6⟩
    have hd' : look d (mapV (liftA (dropW A R)) s.tm) = some v := hd
    rw [look_mapV, Option.map_eq_some_iff] at hd'
    obtain ⟨v0, h0, rfl⟩ := hd'
    obtain ⟨u, hu, hv⟩ := hr.tm d v0 h0
    exact ⟨u, hu, AVR_lift m5 hv⟩
  -- the table
  obtain ⟨oA, a1, a2, a3⟩ := hxv
  rw [lk_none, hA] at a1
  cases a1
  rcases a3 with ⟨k0, A0, hua⟩ | ⟨bA, pA, aA, cap, a4, a5, a6, a7, a8, curA, eA, a9, a10⟩
  · -- nothing is in it yet
    have hxss : xss = [] := List.eq_nil_of_length_eq_zero k0
    subst hxss
    have hge := grownCap_ge M.w (0 + 1) 0 ti.elem
    have hncm := grownCap_le_maxLen M.w (0 + 1) 0 ti.elem (by simp only [maxLen]; omega)
    have hrun := run_app_grow (P := P) (w := M.w) (ty := o.type) hu g1 g4 (A := A0) (Ax := some ⟨bB, aB, none⟩) (len := 0) (cap := 0) (n := 1) (capx := cB) (olds := []) (news := [uR]) (fun w' _ => by cases A0 <;> simp [Builtin.firstCells, loadCells, loadCellsFrom]) hx1 (by omega) (by omega) (by rw [g3]; have := hbytes; simp at this; omega)
    rw [← hua, ← b5] at hrun
    refine hfin (bA := M.w.heap.size) (pA := 0) hrun rfl rfl rfl (Nat.le_succ _) (by simp) (fun b hb _ => heap_alloc_old M.w.drew _ hb) (heap_alloc_new M.w.drew _) ?_ (by simpa using hge) hncm (.inl (Nat.le_refl _)) (fun r hr => by cases hr) ?_
    · simp only [Array.size_append, List.size_toArray, size_zeroCells, hzs, List.length_nil, List.length_cons]; omega
    · rw [Array.getElem?_append_left (by simp)]; rfl
  · have hcur := hM.obj (A, none) _ bA pA hA a4
    obtain ⟨cur', e', k1, k2, k3⟩ := hcur
    rw [a9] at k1
    simp only [Option.some.injEq, Obj.cells.injEq] at k1
    obtain ⟨rfl, rfl, _⟩ := k1
    have ha8 : aA = pA := by rw [a8]; simp
    subst ha8
    have hs1 : (Obj.mat A xss).sz = 1 := rfl
    rw [hs1] at a10
    have hrow : ∀ r, r < xss.length → ∃ u, curA[aA + r]? = some u ∧ u.oneCell' = true ∧ M.keyRow (A, some r) (xss.getD r []).length u := fun r hr => by
      obtain ⟨u, q1, q2, q3⟩ := k3 r hr 0 (by show 0 < 1; omega)
      exact ⟨u, by rw [← q1]; congr 1; rw [hs1]; omega, q2, q3⟩
    by_cases hroom : xss.length + 1 ≤ cap
    · have hrun := run_app_stay (P := P) (w := M.w) (ty := o.type) hu g1 (b := bA) (a := aA) (Ax := some ⟨bB, aB, none⟩) (len := xss.length) (cap := cap) (n := 1) (capx := cB) (news := [uR]) (hx1 M.w rfl) hroom a9 (by rw [g2]; simp; omega) (by intro v hv; rw [List.mem_singleton] at hv; rw [hv]; exact c2)
      rw [← a5, ← b5, g2] at hrun
      generalize hcc : (curA.toList.take (aA + xss.length * 1) ++ [uR] ++ curA.toList.drop (aA + xss.length * 1 + [uR].length)).toArray = cur2 at hrun
      have hc2s : cur2.size = curA.size := by rw [← hcc]; simp; omega
      have hat : ∀ k, cur2[k]? = if aA + xss.length ≤ k ∧ k < aA + xss.length + 1 then some uR else curA[k]? := by
        intro k
        rw [← hcc, List.getElem?_toArray, splice_at _ _ _ _ (by simp; omega)]
        rw [show aA + xss.length * 1 = aA + xss.length by omega]
        simp only [List.length_cons, List.length_nil, Nat.zero_add]
        by_cases h : aA + xss.length ≤ k ∧ k < aA + xss.length + 1
        · rw [if_pos h, if_pos h]
          have : k - (aA + xss.length) = 0 := by omega
          rw [this]; rfl
        · rw [if_neg h, if_neg h]; simp
      refine hfin (bA := bA) (pA := aA) hrun rfl rfl rfl (Nat.le_refl _) (by simp) (fun b _ hne => setRow_other _ _ _ _ hne) (setRow_heap _ _ _ _ _ _ a9) (by rw [hc2s]; omega) hroom a7 (.inr ⟨_, a4⟩) (fun r hr => ?_) ?_
      · obtain ⟨u, q1, q2, q3⟩ := hrow r hr
        exact ⟨u, by rw [hat, if_neg (by omega)]; exact q1, q2, q3⟩
      · rw [hat, if_pos (by omega)]
    · obtain ⟨olds, ol, oc, ov⟩ := row_list (w := M.w) (b := bA) (off := aA) (len := xss.length) (z := 1) (C := fun i _ v => v.oneCell' = true ∧ M.keyRow (A, some i) (xss.getD i []).length v) (fun i hi j hj => by
        obtain ⟨v, v1, v2, v3⟩ := hrow i hi
        refine ⟨v, ?_, v2, v3⟩
        rw [cell_of_row _ _ _ _ _ _ a9, ← v1]
        congr 1
        omega)
      have hge := grownCap_ge M.w (xss.length + 1) cap ti.elem
      have hncm := grownCap_le_maxLen M.w (xss.length + 1) cap ti.elem (by simp only [maxLen]; omega)
      have hs : ∀ w' : World, w'.heap = M.w.heap → (Builtin.firstCells tj.size xss.length (.slice (some ⟨bA, aA, none⟩) xss.length cap)).run P w' = .ok olds.toArray w' := by
        intro w' hw'
        refine firstCells_slice (by rw [g2]; exact ol) (fun h => (by cases h)) (fun b' off' s' hA hne => ?_)
        cases hA
        exact ⟨rfl, fun k v hk => (World.cell?_of_block (w := M.w) (w' := w') (a := ⟨bA, aA + k, none⟩) (by rw [hw'])).trans (oc k v hk)⟩
      have hrun := run_app_grow (P := P) (w := M.w) (ty := o.type) hu g1 g4 hs hx1 (by omega) h63 (by rw [g3]; exact hbytes)
      rw [← a5, ← b5] at hrun
      have hol : olds.length = xss.length := by omega
      refine hfin (bA := M.w.heap.size) (pA := 0) hrun rfl rfl rfl (Nat.le_succ _) (by simp) (fun b hb _ => heap_alloc_old M.w.drew _ hb) (heap_alloc_new M.w.drew _) ?_ hge hncm (.inl (Nat.le_refl _)) (fun r hr => ?_) ?_
      · simp only [Array.size_append, List.size_toArray, size_zeroCells, hzs, hol, List.length_cons, List.length_nil]; omega
      · obtain ⟨v, v1, v2, v3⟩ := ov r 0 hr (by omega)
        refine ⟨v, ?_, v2, v3⟩
        have hlt := (List.getElem?_eq_some_iff.1 v1).1
        rw [Array.append_assoc, Array.getElem?_append_left (by simp; omega)]
        simpa using v1
      · rw [Array.append_assoc, Array.getElem?_append_right (by simp; omega), Array.getElem?_append_left (by simp; omega)]
        simp [hol]
end Go.Ab
namespace Go.Ab
open Go
theorem aany_rowapp {P : Program} {T : Nat → Option TI} {K : Post} {s : St} {l : List Oper} {m k : Nat} {listed L : Array Bool} {o : Oper} {r : List Oper} {t : TypeId} {ti ie : TI} {x y : Operand} {A B R n d : Nat} {xss : List (List Int)} {ys : List Int} (hT : ∀ t i, T t = some i → TF P t i)
    (hrd : Region.ready .any l.toArray listed = [k]) (hL : listed.setIfInBounds k true = L) (hl : l.drop k = o :: r)
    (ho : o.op = .call { callee := .builtin .append, args := #[x, y], argTypes := #[t, t] }) (hg : o.guard = none) (hd : o.dst = some d) (hdn : Nat.ble (d + 1) s.n = true) (hti : T t = some ti) (hkd : ti.kind = .slice) (hie : T ti.elem = some ie) (hsz1 : ie.sz = 1)
    (hx : s.raw x = some (.one (.rw A 0 xss.length))) (hy : s.raw y = some (.one (.rw B 0 1))) (hA : look A s.hp = some (.mat A xss)) (hB : look B s.hp = some (.box 1 1 [.rw R 0 n])) (hR : look R s.hp = some (.flat (.ints .i64 ys)))
    (hbA : big A = true) (hbR : big R = true) (hn : n = ys.length) (hbytes : (xss.length + 1) * ie.bytes ≤ 140737488355328) (h63 : xss.length + 1 ≤ 9223372036854775807)
    (hk : AAny P l K m L ⟨s.n, ins d (.one (.rw A 0 (xss.length + 1))) (mapV (liftA (dropW A R)) s.tm), pushH A R xss ys s.hp⟩) : AAny P l K (m + 1) listed s := ⟨fun M0 M a he hr => by
  subst hL
  obtain ⟨v, M', hrun, hext, hr', hv⟩ := rowApp_sound (P := P) hT hr ho hti hkd hie hsz1 hx hy hA hB hR hn hbA hbR hbytes h63
  refine ⟨fun h0 => (by rw [hrd] at h0; cases h0), fun j hj => ?_⟩
  rw [hrd, List.mem_singleton] at hj
  subst hj
  refine wpOp_of_ok ?_
  unfold OpOk
  rw [hl]
  simp only
  rw [if_pos (by simp [Region.wanted, hg])]
  refine .inl ?_
  have hput : putD (some d) (.one (.rw A 0 (xss.length + 1))) s.n (mapV (liftA (dropW A R)) s.tm) = some (ins d (.one (.rw A 0 (xss.length + 1))) (mapV (liftA (dropW A R)) s.tm)) := by
    simp only [putD, hdn, cond_true]
  unfold Oper.wp
  rw [hrun]
  show wpAny P .any l.toArray (QN (Qc K M0)) m _ (a.put o.dst v) M'.w
  rw [hd]
  exact hk.run M0 M' _ (he.trans hext) (hr'.put hput hv)⟩
end Go.Ab
