/- The abstract machine, part 17: a slice against nil; a slice that is nil or not, as it may be. -/
import Derived.Test.YtdglhalkilneaaaAb15
import Derived.Lib.SliceRun
import Derived.WalkSpells
namespace Go.Ab
open Go

/-- No element is in it. -/
def noneIn : V1 → Prop
  | .ro c => c.len = 0
  | .rs c => c.len = 0
  | .rw _ _ n => n = 0
  | _ => True
def isSl : V1 → Bool
  | .ro _ => true
  | .rs _ => true
  | .nils => true
  | .rw _ _ _ => true
  | _ => false

theorem slice_form {M : Mem} {v : V1} {u : Value} (hs : isSl v = true) (h : VR M v u) : ∃ A n c, u = .slice A n c ∧ (A = none → noneIn v) := by
  cases v with
  | ro c =>
    obtain ⟨A, cap, rfl, _, _, h⟩ := h
    exact ⟨A, _, cap, rfl, fun hA => by
      rcases h with h | ⟨b, off, hA', _⟩
      · exact h
      · rw [hA] at hA'; cases hA'⟩
  | rs c =>
    obtain ⟨A, cap, rfl, _, _, h⟩ := h
    exact ⟨A, _, cap, rfl, fun hA => by
      rcases h with h | ⟨b, off, hA', _⟩
      · exact h
      · rw [hA] at hA'; cases hA'⟩
  | nils =>
    obtain ⟨A, rfl⟩ := h
    exact ⟨A, 0, 0, rfl, fun _ => trivial⟩
  | rw id off n =>
    obtain ⟨o, _, _, h⟩ := h
    rcases h with ⟨h, A, rfl⟩ | ⟨b, p, a, cap, _, rfl, _⟩
    · exact ⟨A, 0, 0, rfl, fun _ => h⟩
    · exact ⟨_, n, cap, rfl, fun hA => by cases hA⟩
  | _ => cases hs

/-- 's == nil', or 's != nil': the answer is not known; if it is nil, nothing is in it. -/
theorem aops_isnil {P : Program} {T : Nat → Option TI} {K : Post} {s : St} {l : List Oper} {k : Nat} {o : Oper} {r : List Oper} (neg : Bool) {t yt : TypeId} {i : TI} {x d : Nat} {v : V1} (hT : ∀ t i, T t = some i → TF P t i) (hl : l.drop k = o :: r)
    (ho : o.op = .binOp (cond neg .neq .eql) t (.tmp x) (.const (.slice none 0 0)) yt) (hg : o.guard = none) (hd : o.dst = some d) (hdn : Nat.ble (d + 1) s.n = true)
    (hi : T t = some i) (hik : i.kind = .slice) (hx : s.raw (.tmp x) = some (.one v)) (hs : isSl v = true)
    (hk : ∀ b : Bool, (b = true → noneIn v) → AOps P l (k + 1) K ⟨s.n, ins d (.one (.bool (cond neg (!b) b))) s.tm, s.hp⟩) : AOps P l k K s := ⟨fun M0 M a he hr => by
  have hdr : l.drop (k + 1) = r := by
    have h1 : (l.drop k).drop 1 = r := by rw [hl]; rfl
    rwa [List.drop_drop] at h1
  rw [hl]
  unfold wpList
  have hu := kind_slice (hT _ _ hi) hik
  have hv := raw_sound hr hx
  obtain ⟨A, n, c, hA, hnone⟩ := slice_form hs hv
  have hrun : (execOp a.eval o).run P M.w = .ok (.value (.bool (cond neg (!A.isNone) A.isNone))) M.w := by
    have hc : a.eval (.const (.slice none 0 0)) = .slice none 0 0 := rfl
    cases neg with
    | false =>
      have h2 := Lib.run_eql_slice_nil (P := P) M.w t i.elem A n c 0 0 hu
      simp only [cond_false] at ho ⊢
      simp only [execOp, ho, hA, hc, eqGuard, Sem.run_bind]
      simp only [h2, Bool.not_true, Bool.false_eq_true, if_false, Sem.run_pure, Result.andThen_ok]
    | true =>
      have h2 := run_neq_slice_nil_any (P := P) M.w t i.elem A n c 0 0 hu
      simp only [cond_true] at ho ⊢
      simp only [execOp, ho, hA, hc, eqGuard, Sem.run_bind]
      simp only [h2, Bool.not_true, Bool.false_eq_true, if_false, Sem.run_pure, Result.andThen_ok]
  rw [if_pos (by simp [Region.wanted, hg])]
  refine .inl ?_
  have hput : putD (some d) (.one (.bool (cond neg (!A.isNone) A.isNone))) s.n s.tm = some (ins d (.one (.bool (cond neg (!A.isNone) A.isNone))) s.tm) := by
    simp only [putD, hdn, cond_true]
  have hvr : AVR M (.one (.bool (cond neg (!A.isNone) A.isNone))) (.bool (cond neg (!A.isNone) A.isNone)) := rfl
  have hput2 : putD o.dst (.one (.bool (cond neg (!A.isNone) A.isNone))) s.n s.tm = some (ins d (.one (.bool (cond neg (!A.isNone) A.isNone))) s.tm) := by rw [hd]; exact hput
  have hgo := (hk A.isNone (fun hb => hnone (by simpa using hb))).run M0 M _ he (hr.put hput2 hvr)
  rw [hdr] at hgo
  unfold Oper.wp
  rw [hrun]
  exact hgo⟩

theorem awk_boxcell (id k : Nat) (n sz : Nat) (vs : List V1) (v v' : V1) (s : St) (h : look id s.hp = some (.box n sz vs)) (hv : vs[k]? = some v) (hw : WkV s.hp v v') : AWk s ⟨s.n, s.tm, ins id (.box n sz (vs.set k v')) s.hp⟩ :=
  awk_obj id _ _ s h rfl rfl (fun i j _ _ => by
    simp only [Obj.cell]
    by_cases hk : i * sz + j = k
    · subst hk
      rw [List.getD_eq_getElem?_getD, hv, List.getD_eq_getElem?_getD, List.getElem?_set_self (List.getElem?_eq_some_iff.1 hv).1]
      exact hw
    · rw [List.getD_eq_getElem?_getD, List.getD_eq_getElem?_getD, List.getElem?_set_ne (Ne.symm hk)]
      exact WkV.refl _ _)

/-! ### Arguments that are read in another way -/
inductive WkL (H : Heap) : List V1 → List V1 → Prop where
  | nil : WkL H [] []
  | same (v : V1) {r r' : List V1} (h : WkL H r r') : WkL H (v :: r) (v :: r')
  | no0 (c : C0) (hc : c.len = 0) {r r' : List V1} (h : WkL H r r') : WkL H (.nils :: r) (.ro c :: r')
  | no1 (c : C1) (hc : c.len = 0) {r r' : List V1} (h : WkL H r r') : WkL H (.nils :: r) (.rs c :: r')
theorem WkL.at_ {H : Heap} {vs vs' : List V1} (h : WkL H vs vs') : vs.length = vs'.length ∧ ∀ (i : Nat) (v' : V1), vs'[i]? = some v' → ∃ v, vs[i]? = some v ∧ WkV H v v' := by
  induction h with
  | nil => exact ⟨rfl, fun i v' hi => by simp at hi⟩
  | same v _ ih =>
    refine ⟨by simp [ih.1], fun i v' hi => ?_⟩
    cases i with
    | zero => simp only [List.getElem?_cons_zero, Option.some.injEq] at hi; subst hi; exact ⟨_, rfl, WkV.refl _ _⟩
    | succ i => simp only [List.getElem?_cons_succ] at hi ⊢; exact ih.2 i v' hi
  | no0 c hc _ ih =>
    refine ⟨by simp [ih.1], fun i v' hi => ?_⟩
    cases i with
    | zero => simp only [List.getElem?_cons_zero, Option.some.injEq] at hi; subst hi; exact ⟨_, rfl, wkv_nil0 hc⟩
    | succ i => simp only [List.getElem?_cons_succ] at hi ⊢; exact ih.2 i v' hi
  | no1 c hc _ ih =>
    refine ⟨by simp [ih.1], fun i v' hi => ?_⟩
    cases i with
    | zero => simp only [List.getElem?_cons_zero, Option.some.injEq] at hi; subst hi; exact ⟨_, rfl, wkv_nil1 hc⟩
    | succ i => simp only [List.getElem?_cons_succ] at hi ⊢; exact ih.2 i v' hi
theorem WkL.agg {H : Heap} {vs vs' : List V1} (h : WkL H vs vs') : WkA H (.agg vs) (.agg vs') := .agg h.at_.1 h.at_.2
inductive WkArgs (H : Heap) : List AV → List AV → Prop where
  | nil : WkArgs H [] []
  | cons {v v' : AV} (hv : WkA H v v') {r r' : List AV} (h : WkArgs H r r') : WkArgs H (v :: r) (v' :: r')
theorem WkArgs.at_ {H : Heap} {vs vs' : List AV} (h : WkArgs H vs vs') : vs.length = vs'.length ∧ ∀ (i : Nat) (v' : AV), vs'[i]? = some v' → ∃ v, vs[i]? = some v ∧ WkA H v v' := by
  induction h with
  | nil => exact ⟨rfl, fun i v' hi => by simp at hi⟩
  | cons hv _ ih =>
    refine ⟨by simp [ih.1], fun i v' hi => ?_⟩
    cases i with
    | zero => simp only [List.getElem?_cons_zero, Option.some.injEq] at hi; subst hi; exact ⟨_, rfl, hv⟩
    | succ i => simp only [List.getElem?_cons_succ] at hi ⊢; exact ih.2 i v' hi
theorem ACall.pre {P : Program} {f : FuncId} {args args' : List AV} {Hin : Heap} {Φ : AV → Heap → Prop} (h : ACall P f args' Hin Φ) (hw : WkArgs Hin args args') : ACall P f args Hin Φ :=
  ⟨h.fn, fun M us hH hM ha => h.run M us hH hM ⟨ha.1.trans hw.at_.1, fun i v' hi => by
    obtain ⟨v, hv, hwk⟩ := hw.at_.2 i v' hi
    obtain ⟨u, hu, hr⟩ := ha.2 i v hv
    exact ⟨u, hu, hwk.sound hH hr⟩⟩⟩
end Go.Ab
