/- The abstract machine, part 6: what is written into contents, and the three ways in which the memory changes (a store, a new block, a block that is filled up). -/
import Derived.Test.YtdglhalkilneaaaAb5
namespace Go.Ab

/-! ### Contents that grow or change -/
def C0.push : C0 → List V1 → Option C0
  | .ints k xs, [.int k' n] => cond (kEq k k') (some (.ints k (xs ++ [n]))) none
  | .bools xs, [.bool b] => some (.bools (xs ++ [b]))
  | .arcs xs, [.int .i64 a, .int .i64 b, .int .i64 c] => some (.arcs (xs ++ [⟨a, b, c⟩]))
  | .nds xs, [.int .i64 a, .int .i64 b, .int .i64 c, .int .i64 d] => some (.nds (xs ++ [⟨a, b, c, d⟩]))
  | .steps xs, [.int .i64 a, .bool b] => some (.steps (xs ++ [(a, b)]))
  | .strs xs, [.str s] => some (.strs (xs ++ [s]))
  | _, _ => none
def C0.pushAll : Nat → C0 → List V1 → Option C0
  | 0, c, [] => some c
  | 0, _, _ => none
  | n + 1, c, vs => (match C0.push c (vs.take c.sz) with | some c' => C0.pushAll n c' (vs.drop c.sz) | none => none)
def C0.app : C0 → C0 → Option C0
  | .ints k xs, .ints k' ys => cond (kEq k k') (some (.ints k (xs ++ ys))) none
  | .bools xs, .bools ys => some (.bools (xs ++ ys))
  | .arcs xs, .arcs ys => some (.arcs (xs ++ ys))
  | .nds xs, .nds ys => some (.nds (xs ++ ys))
  | .steps xs, .steps ys => some (.steps (xs ++ ys))
  | .strs xs, .strs ys => some (.strs (xs ++ ys))
  | _, _ => none
def arcPut (a : Arc) : Nat → Int → Arc
  | 0, n => ⟨n, a.dst, a.cap⟩
  | 1, n => ⟨a.src, n, a.cap⟩
  | _, n => ⟨a.src, a.dst, n⟩
def C0.put : C0 → Nat → Nat → List V1 → Option C0
  | .ints k xs, i, 0, [.int k' n] => cond (kEq k k') (some (.ints k (xs.set i n))) none
  | .bools xs, i, 0, [.bool b] => some (.bools (xs.set i b))
  | .arcs xs, i, 0, [.int .i64 a, .int .i64 b, .int .i64 c] => some (.arcs (xs.set i ⟨a, b, c⟩))
  | .arcs xs, i, j, [.int .i64 n] => cond (Nat.ble j 2) (some (.arcs (xs.set i (arcPut (xs.getD i default) j n)))) none
  | .steps xs, i, 0, [.int .i64 a, .bool b] => some (.steps (xs.set i (a, b)))
  | .strs xs, i, 0, [.str s] => some (.strs (xs.set i s))
  | _, _, _, _ => none

def C1.push : C1 → List V1 → Option C1
  | .rows xs, [.ro (.ints .i64 r)] => some (.rows (xs ++ [r]))
  | .rows xs, [.nils] => some (.rows (xs ++ [[]]))
  | .brows xs, [.ro (.bools r)] => some (.brows (xs ++ [r]))
  | .brows xs, [.nils] => some (.brows (xs ++ [[]]))
  | .arows xs, [.ro (.arcs r)] => some (.arows (xs ++ [r]))
  | .pieces xs, [.int .i64 a, .ro (.ints .i64 r)] => some (.pieces (xs ++ [(a, r)]))
  | _, _ => none
def C1.pushAll : Nat → C1 → List V1 → Option C1
  | 0, c, [] => some c
  | 0, _, _ => none
  | n + 1, c, vs => (match C1.push c (vs.take c.sz) with | some c' => C1.pushAll n c' (vs.drop c.sz) | none => none)
def C1.app : C1 → C1 → Option C1
  | .rows xs, .rows ys => some (.rows (xs ++ ys))
  | .brows xs, .brows ys => some (.brows (xs ++ ys))
  | .arows xs, .arows ys => some (.arows (xs ++ ys))
  | .pieces xs, .pieces ys => some (.pieces (xs ++ ys))
  | _, _ => none
def C1.put : C1 → Nat → Nat → List V1 → Option C1
  | .rows xs, i, 0, [.ro (.ints .i64 r)] => some (.rows (xs.set i r))
  | .brows xs, i, 0, [.ro (.bools r)] => some (.brows (xs.set i r))
  | _, _, _, _ => none

theorem getD_app_l {α : Type} (xs ys : List α) (d : α) (i : Nat) (h : i < xs.length) : (xs ++ ys).getD i d = xs.getD i d := by
  simp only [List.getD_eq_getElem?_getD]; rw [List.getElem?_append_left h]
theorem getD_app_r {α : Type} (xs ys : List α) (d : α) (i : Nat) : (xs ++ ys).getD (xs.length + i) d = ys.getD i d := by
  simp only [List.getD_eq_getElem?_getD]; rw [List.getElem?_append_right (by omega)]; congr 2; omega
theorem getD_set {α : Type} (xs : List α) (d x : α) (i k : Nat) (h : i < xs.length) : (xs.set i x).getD k d = if k = i then x else xs.getD k d := by
  simp only [List.getD_eq_getElem?_getD, List.getElem?_set]
  by_cases hk : i = k
  · subst hk; simp [h]
  · simp [hk, Ne.symm hk]

structure PushOk (n z n' z' : Nat) (cell cell' : Nat → Nat → V1) (us : List V1) : Prop where
  sz : z' = z
  len : n' = n + 1
  vs : us.length = z
  old : ∀ i j, i < n → cell' i j = cell i j
  new : ∀ (j : Nat) (v : V1), us[j]? = some v → cell' n j = v

theorem getD_snoc {α : Type} (xs : List α) (x d : α) : (xs ++ [x]).getD xs.length d = x := by
  have := getD_app_r xs [x] d 0
  simp at this ⊢

theorem C0.push_ok {c c' : C0} {vs : List V1} (h : c.push vs = some c') : PushOk c.len c.sz c'.len c'.sz c.cell c'.cell vs := by
  unfold C0.push at h
  split at h <;> first | (cases h; done) | skip
  case h_1 k xs k' n =>
    cases hk : kEq k k'
    · rw [hk] at h; cases h
    · rw [hk] at h
      have : k = k' := of_decide_eq_true hk
      subst this
      simp only [cond_true, Option.some.injEq] at h
      subst h
      refine ⟨rfl, by simp [C0.len], rfl, fun i j hi => by simp only [C0.cell, getD_app_l _ _ _ _ hi], fun j v hj => ?_⟩
      match j with
      | 0 => simp at hj; subst hj; simp only [C0.cell, C0.len, getD_snoc]
      | j + 1 => simp at hj
  case h_2 xs b =>
    simp only [Option.some.injEq] at h
    subst h
    refine ⟨rfl, by simp [C0.len], rfl, fun i j hi => by simp only [C0.cell, getD_app_l _ _ _ _ hi], fun j v hj => ?_⟩
    match j with
    | 0 => simp at hj; subst hj; simp only [C0.cell, C0.len, getD_snoc]
    | j + 1 => simp at hj
  case h_3 xs a b c =>
    simp only [Option.some.injEq] at h
    subst h
    refine ⟨rfl, by simp [C0.len], rfl, fun i j hi => by simp only [C0.cell, getD_app_l _ _ _ _ hi], fun j v hj => ?_⟩
    match j with
    | 0 => simp at hj; subst hj; simp only [C0.cell, C0.len, getD_snoc]; rfl
    | 1 => simp at hj; subst hj; simp only [C0.cell, C0.len, getD_snoc]; rfl
    | 2 => simp at hj; subst hj; simp only [C0.cell, C0.len, getD_snoc]; rfl
    | j + 3 => simp at hj
  case h_4 xs a b c d =>
    simp only [Option.some.injEq] at h
    subst h
    refine ⟨rfl, by simp [C0.len], rfl, fun i j hi => by simp only [C0.cell, getD_app_l _ _ _ _ hi], fun j v hj => ?_⟩
    match j with
    | 0 => simp at hj; subst hj; simp only [C0.cell, C0.len, getD_snoc]; rfl
    | 1 => simp at hj; subst hj; simp only [C0.cell, C0.len, getD_snoc]; rfl
    | 2 => simp at hj; subst hj; simp only [C0.cell, C0.len, getD_snoc]; rfl
    | 3 => simp at hj; subst hj; simp only [C0.cell, C0.len, getD_snoc]; rfl
    | j + 4 => simp at hj
  case h_5 xs a b =>
    simp only [Option.some.injEq] at h
    subst h
    refine ⟨rfl, by simp [C0.len], rfl, fun i j hi => by simp only [C0.cell, getD_app_l _ _ _ _ hi], fun j v hj => ?_⟩
    match j with
    | 0 => simp at hj; subst hj; simp only [C0.cell, C0.len, getD_snoc]; rfl
    | 1 => simp at hj; subst hj; simp only [C0.cell, C0.len, getD_snoc]; rfl
    | j + 2 => simp at hj
  case h_6 xs s =>
    simp only [Option.some.injEq] at h
    subst h
    refine ⟨rfl, by simp [C0.len], rfl, fun i j hi => by simp only [C0.cell, getD_app_l _ _ _ _ hi], fun j v hj => ?_⟩
    match j with
    | 0 => simp at hj; subst hj; simp only [C0.cell, C0.len, getD_snoc]
    | j + 1 => simp at hj

/-- What a row of values means at a place: as the cell says, or an empty slice for one that is nil. -/
def VRel (M : Mem) (v v' : V1) : Prop := ∀ u, VR M v u → VR M v' u

structure GrowOk (M : Mem) (m z m' z' : Nat) (cell cell' : Nat → Nat → V1) (n : Nat) (src : Nat → Nat → V1) : Prop where
  sz : z' = z
  len : m' = m + n
  old : ∀ i j, i < m → cell' i j = cell i j
  new : ∀ i j, i < n → j < z → VRel M (src i j) (cell' (m + i) j)

theorem roSl_nil {M : Mem} {C : Nat → Nat → Value → Prop} {sz : Nat} {u : Value} (h : VR M .nils u) : M.roSl 0 sz C u := by
  obtain ⟨A, rfl⟩ := h
  exact ⟨A, 0, rfl, Nat.le_refl _, by simp [maxLen], .inl rfl⟩

theorem C1.push_ok {M : Mem} {c c' : C1} {vs : List V1} (h : c.push vs = some c') :
    c'.sz = c.sz ∧ c'.len = c.len + 1 ∧ vs.length = c.sz ∧ (∀ i j, i < c.len → c'.cell i j = c.cell i j) ∧ ∀ (j : Nat) (v : V1), vs[j]? = some v → VRel M v (c'.cell c.len j) := by
  unfold C1.push at h
  split at h <;> first | (cases h; done) | skip
  all_goals (simp only [Option.some.injEq] at h; subst h)
  all_goals refine ⟨rfl, by simp [C1.len], rfl, fun i j hi => by simp only [C1.cell, getD_app_l _ _ _ _ hi], fun j v hj => ?_⟩
  case h_2 =>
    match j with
    | 0 => simp at hj; subst hj; simp only [C1.cell, C1.len, getD_snoc]; exact fun u hu => roSl_nil hu
    | j + 1 => simp at hj
  case h_4 =>
    match j with
    | 0 => simp at hj; subst hj; simp only [C1.cell, C1.len, getD_snoc]; exact fun u hu => roSl_nil hu
    | j + 1 => simp at hj
  case h_6 =>
    match j with
    | 0 => simp at hj; subst hj; simp only [C1.cell, C1.len, getD_snoc]; exact fun u hu => hu
    | 1 => simp at hj; subst hj; simp only [C1.cell, C1.len, getD_snoc]; exact fun u hu => hu
    | j + 2 => simp at hj
  all_goals
    match j with
    | 0 => simp at hj; subst hj; simp only [C1.cell, C1.len, getD_snoc]; exact fun u hu => hu
    | j + 1 => simp at hj

theorem C0.pushAll_ok {M : Mem} : ∀ {n : Nat} {c c' : C0} {vs : List V1}, C0.pushAll n c vs = some c' →
    vs.length = n * c.sz ∧ GrowOk M c.len c.sz c'.len c'.sz c.cell c'.cell n (fun i j => vs.getD (i * c.sz + j) .any)
  | 0, c, c', [], h => by
    simp only [C0.pushAll, Option.some.injEq] at h
    subst h
    exact ⟨by simp, rfl, rfl, fun _ _ _ => rfl, fun i j hi => by omega⟩
  | 0, c, c', _ :: _, h => by cases h
  | n + 1, c, c', vs, h => by
    unfold C0.pushAll at h
    split at h
    · rename_i c1 h1
      have p := C0.push_ok h1
      obtain ⟨hl, g⟩ := C0.pushAll_ok (M := M) h
      have hz : c1.sz = c.sz := p.sz
      have hlt : (vs.take c.sz).length = c.sz := p.vs
      rw [List.length_take] at hlt
      rw [List.length_drop, hz] at hl
      refine ⟨by rw [Nat.add_mul]; omega, g.sz.trans p.sz, by rw [g.len, p.len]; omega, fun i j hi => by rw [g.old i j (by rw [p.len]; omega), p.old i j hi], fun i j hi hj => ?_⟩
      match i with
      | 0 =>
        rw [Nat.add_zero, g.old c.len j (by rw [p.len]; omega)]
        have hjv : j < (vs.take c.sz).length := by rw [p.vs]; exact hj
        rw [p.new j _ (List.getElem?_eq_getElem hjv)]
        simp only [List.getElem_take, Nat.zero_mul, Nat.zero_add, List.getD_eq_getElem?_getD]
        rw [List.getElem?_eq_getElem (by omega)]
        exact fun u hu => hu
      | i + 1 =>
        have := g.new i j (by omega) (by rw [hz]; exact hj)
        rw [p.len, hz] at this
        have e : c.len + 1 + i = c.len + (i + 1) := by omega
        rw [e] at this
        have e2 : (vs.drop c.sz).getD (i * c.sz + j) .any = vs.getD ((i + 1) * c.sz + j) .any := by
          simp only [List.getD_eq_getElem?_getD, List.getElem?_drop]
          congr 2
          rw [Nat.add_mul]; omega
        rw [e2] at this
        exact this
    · cases h

theorem C1.pushAll_ok {M : Mem} : ∀ {n : Nat} {c c' : C1} {vs : List V1}, C1.pushAll n c vs = some c' →
    vs.length = n * c.sz ∧ GrowOk M c.len c.sz c'.len c'.sz c.cell c'.cell n (fun i j => vs.getD (i * c.sz + j) .any)
  | 0, c, c', [], h => by
    simp only [C1.pushAll, Option.some.injEq] at h
    subst h
    exact ⟨by simp, rfl, rfl, fun _ _ _ => rfl, fun i j hi => by omega⟩
  | 0, c, c', _ :: _, h => by cases h
  | n + 1, c, c', vs, h => by
    unfold C1.pushAll at h
    split at h
    · rename_i c1 h1
      obtain ⟨psz, plen, pvs, pold, pnew⟩ := C1.push_ok (M := M) h1
      obtain ⟨hl, g⟩ := C1.pushAll_ok (M := M) h
      have hz : c1.sz = c.sz := psz
      have hlt : (vs.take c.sz).length = c.sz := pvs
      rw [List.length_take] at hlt
      rw [List.length_drop, hz] at hl
      refine ⟨by rw [Nat.add_mul]; omega, g.sz.trans psz, by rw [g.len, plen]; omega, fun i j hi => by rw [g.old i j (by rw [plen]; omega), pold i j hi], fun i j hi hj => ?_⟩
      match i with
      | 0 =>
        rw [Nat.add_zero, g.old c.len j (by rw [plen]; omega)]
        have hjv : j < (vs.take c.sz).length := by rw [pvs]; exact hj
        have := pnew j _ (List.getElem?_eq_getElem hjv)
        simp only [List.getElem_take] at this
        simp only [Nat.zero_mul, Nat.zero_add, List.getD_eq_getElem?_getD]
        rw [List.getElem?_eq_getElem (by omega)]
        exact this
      | i + 1 =>
        have := g.new i j (by omega) (by rw [hz]; exact hj)
        rw [plen, hz] at this
        have e : c.len + 1 + i = c.len + (i + 1) := by omega
        rw [e] at this
        have e2 : (vs.drop c.sz).getD (i * c.sz + j) .any = vs.getD ((i + 1) * c.sz + j) .any := by
          simp only [List.getD_eq_getElem?_getD, List.getElem?_drop]
          congr 2
          rw [Nat.add_mul]; omega
        rw [e2] at this
        exact this
    · cases h

theorem C0.app_ok {M : Mem} {c c2 c' : C0} (h : c.app c2 = some c') : c2.sz = c.sz ∧ GrowOk M c.len c.sz c'.len c'.sz c.cell c'.cell c2.len c2.cell := by
  unfold C0.app at h
  split at h <;> first | (cases h; done) | skip
  case h_1 k xs k' ys =>
    cases hk : kEq k k'
    · rw [hk] at h; cases h
    · rw [hk] at h
      have : k = k' := of_decide_eq_true hk
      subst this
      simp only [cond_true, Option.some.injEq] at h
      subst h
      exact ⟨rfl, rfl, by simp [C0.len], fun i j hi => by simp only [C0.cell, getD_app_l _ _ _ _ hi], fun i j _ _ u hu => by simp only [C0.cell, C0.len, getD_app_r]; exact hu⟩
  all_goals
    simp only [Option.some.injEq] at h
    subst h
    exact ⟨rfl, rfl, by simp [C0.len], fun i j hi => by simp only [C0.cell, getD_app_l _ _ _ _ hi], fun i j _ _ u hu => by simp only [C0.cell, C0.len, getD_app_r]; exact hu⟩

theorem C1.app_ok {M : Mem} {c c2 c' : C1} (h : c.app c2 = some c') : c2.sz = c.sz ∧ GrowOk M c.len c.sz c'.len c'.sz c.cell c'.cell c2.len c2.cell := by
  unfold C1.app at h
  split at h <;> first | (cases h; done) | skip
  all_goals
    simp only [Option.some.injEq] at h
    subst h
    exact ⟨rfl, rfl, by simp [C1.len], fun i j hi => by simp only [C1.cell, getD_app_l _ _ _ _ hi], fun i j _ _ u hu => by simp only [C1.cell, C1.len, getD_app_r]; exact hu⟩

structure PutOk (n z n' z' : Nat) (cell cell' : Nat → Nat → V1) (i j : Nat) (vs : List V1) : Prop where
  sz : z' = z
  len : n' = n
  fit : j + vs.length ≤ z
  new : ∀ (d : Nat) (v : V1), vs[d]? = some v → cell' i (j + d) = v
  old : ∀ i' j', i' < n → j' < z → ¬ (i' = i ∧ j ≤ j' ∧ j' < j + vs.length) → cell' i' j' = cell i' j'

theorem C0.put_ok {c c' : C0} {i j : Nat} {vs : List V1} (h : c.put i j vs = some c') (hi : i < c.len) : PutOk c.len c.sz c'.len c'.sz c.cell c'.cell i j vs := by
  unfold C0.put at h
  split at h <;> first | (cases h; done) | skip
  case h_1 k xs k' n =>
    cases hk : kEq k k'
    · rw [hk] at h; cases h
    · rw [hk] at h
      have : k = k' := of_decide_eq_true hk
      subst this
      simp only [cond_true, Option.some.injEq] at h
      subst h
      refine ⟨rfl, by simp [C0.len], by simp [C0.sz], fun d v hd => ?_, fun i' j' h1 h2 h3 => ?_⟩
      · match d with
        | 0 => simp at hd; subst hd; simp only [C0.cell, getD_set _ _ _ _ _ hi, if_true]
        | d + 1 => simp at hd
      · simp only [C0.cell, getD_set _ _ _ _ _ hi]
        simp only [C0.sz] at h2
        rw [if_neg (by simp at h3; omega)]
  case h_2 xs b =>
    simp only [Option.some.injEq] at h
    subst h
    refine ⟨rfl, by simp [C0.len], by simp [C0.sz], fun d v hd => ?_, fun i' j' h1 h2 h3 => ?_⟩
    · match d with
      | 0 => simp at hd; subst hd; simp only [C0.cell, getD_set _ _ _ _ _ hi, if_true]
      | d + 1 => simp at hd
    · simp only [C0.cell, getD_set _ _ _ _ _ hi]
      simp only [C0.sz] at h2
      rw [if_neg (by simp at h3; omega)]
  case h_3 xs a b c =>
    simp only [Option.some.injEq] at h
    subst h
    refine ⟨rfl, by simp [C0.len], by simp [C0.sz], fun d v hd => ?_, fun i' j' h1 h2 h3 => ?_⟩
    · match d with
      | 0 => simp at hd; subst hd; simp only [C0.cell, getD_set _ _ _ _ _ hi, if_true]; rfl
      | 1 => simp at hd; subst hd; simp only [C0.cell, getD_set _ _ _ _ _ hi, if_true]; rfl
      | 2 => simp at hd; subst hd; simp only [C0.cell, getD_set _ _ _ _ _ hi, if_true]; rfl
      | d + 3 => simp at hd
    · simp only [C0.cell, getD_set _ _ _ _ _ hi]
      simp only [C0.sz] at h2
      rw [if_neg (by simp at h3; omega)]
  case h_4 xs n _ =>
    cases hj : Nat.ble j 2
    · rw [hj] at h; cases h
    · rw [hj] at h
      have hj2 := Nat.le_of_ble_eq_true hj
      simp only [cond_true, Option.some.injEq] at h
      subst h
      refine ⟨rfl, by simp [C0.len], by simp [C0.sz]; omega, fun d v hd => ?_, fun i' j' h1 h2 h3 => ?_⟩
      · match d with
        | 0 =>
          simp at hd; subst hd
          simp only [C0.cell, getD_set _ _ _ _ _ hi, if_true, Nat.add_zero]
          match j, hj2 with
          | 0, _ => rfl
          | 1, _ => rfl
          | 2, _ => rfl
        | d + 1 => simp at hd
      · simp only [C0.cell, getD_set _ _ _ _ _ hi]
        simp only [C0.sz] at h2
        by_cases hii : i' = i
        · subst hii
          rw [if_pos rfl]
          simp at h3
          match j, hj2, j', h2 with
          | 0, _, 0, _ => omega
          | 0, _, 1, _ => rfl
          | 0, _, 2, _ => rfl
          | 1, _, 0, _ => rfl
          | 1, _, 1, _ => omega
          | 1, _, 2, _ => rfl
          | 2, _, 0, _ => rfl
          | 2, _, 1, _ => rfl
          | 2, _, 2, _ => omega
        · rw [if_neg hii]
  case h_5 xs a b =>
    simp only [Option.some.injEq] at h
    subst h
    refine ⟨rfl, by simp [C0.len], by simp [C0.sz], fun d v hd => ?_, fun i' j' h1 h2 h3 => ?_⟩
    · match d with
      | 0 => simp at hd; subst hd; simp only [C0.cell, getD_set _ _ _ _ _ hi, if_true]; rfl
      | 1 => simp at hd; subst hd; simp only [C0.cell, getD_set _ _ _ _ _ hi, if_true]; rfl
      | d + 2 => simp at hd
    · simp only [C0.cell, getD_set _ _ _ _ _ hi]
      simp only [C0.sz] at h2
      rw [if_neg (by simp at h3; omega)]
  case h_6 xs s =>
    simp only [Option.some.injEq] at h
    subst h
    refine ⟨rfl, by simp [C0.len], by simp [C0.sz], fun d v hd => ?_, fun i' j' h1 h2 h3 => ?_⟩
    · match d with
      | 0 => simp at hd; subst hd; simp only [C0.cell, getD_set _ _ _ _ _ hi, if_true]
      | d + 1 => simp at hd
    · simp only [C0.cell, getD_set _ _ _ _ _ hi]
      simp only [C0.sz] at h2
      rw [if_neg (by simp at h3; omega)]

theorem C1.put_ok {c c' : C1} {i j : Nat} {vs : List V1} (h : c.put i j vs = some c') (hi : i < c.len) : PutOk c.len c.sz c'.len c'.sz c.cell c'.cell i j vs := by
  unfold C1.put at h
  split at h <;> first | (cases h; done) | skip
  all_goals
    simp only [Option.some.injEq] at h
    subst h
    refine ⟨rfl, by simp [C1.len], by simp [C1.sz], fun d v hd => ?_, fun i' j' h1 h2 h3 => ?_⟩
    · match d with
      | 0 => simp at hd; subst hd; simp only [C1.cell, getD_set _ _ _ _ _ hi, if_true]
      | d + 1 => simp at hd
    · simp only [C1.cell, getD_set _ _ _ _ _ hi]
      simp only [C1.sz] at h2
      rw [if_neg (by simp at h3; omega)]

def Obj.put : Obj → Nat → Nat → List V1 → Option Obj
  | .flat c, i, j, vs => (C0.put c i j vs).map .flat
  | .recs c, i, j, vs => (C1.put c i j vs).map .recs
  | .box n sz vs0, i, j, vs =>
    cond (Nat.ble (j + vs.length) sz && Nat.ble ((i + 1) * sz) vs0.length) (some (.box n sz (vs0.take (i * sz + j) ++ vs ++ vs0.drop (i * sz + j + vs.length)))) none

theorem idx_ne {sz i i' j j' n : Nat} (h1 : j + n ≤ sz) (h2 : j' < sz) (h3 : ¬ (i' = i ∧ j ≤ j' ∧ j' < j + n)) : i' * sz + j' < i * sz + j ∨ i * sz + j + n ≤ i' * sz + j' := by
  rcases Nat.lt_trichotomy i' i with h | h | h
  · have : (i' + 1) * sz ≤ i * sz := Nat.mul_le_mul_right _ h
    rw [Nat.add_mul] at this; omega
  · subst h; omega
  · have : (i + 1) * sz ≤ i' * sz := Nat.mul_le_mul_right _ h
    rw [Nat.add_mul] at this; omega

theorem Obj.put_ok {o o' : Obj} {i j : Nat} {vs : List V1} (h : o.put i j vs = some o') (hi : i < o.len) : PutOk o.len o.sz o'.len o'.sz o.cell o'.cell i j vs := by
  cases o with
  | flat c =>
    simp only [Obj.put, Option.map_eq_some_iff] at h
    obtain ⟨c', hc, rfl⟩ := h
    exact C0.put_ok hc hi
  | recs c =>
    simp only [Obj.put, Option.map_eq_some_iff] at h
    obtain ⟨c', hc, rfl⟩ := h
    exact C1.put_ok hc hi
  | box n sz vs0 =>
    simp only [Obj.put] at h
    cases hb : (Nat.ble (j + vs.length) sz && Nat.ble ((i + 1) * sz) vs0.length)
    · rw [hb] at h; cases h
    · rw [hb] at h
      simp only [Bool.and_eq_true] at hb
      have h1 := Nat.le_of_ble_eq_true hb.1
      have h2 := Nat.le_of_ble_eq_true hb.2
      simp only [cond_true, Option.some.injEq] at h
      subst h
      rw [Nat.add_mul, Nat.one_mul] at h2
      have hlen : (vs0.take (i * sz + j)).length = i * sz + j := by rw [List.length_take]; omega
      refine ⟨rfl, rfl, h1, fun d v hd => ?_, fun i' j' g1 g2 g3 => ?_⟩
      · have hdl : d < vs.length := (List.getElem?_eq_some_iff.1 hd).1
        simp only [Obj.cell, List.getD_eq_getElem?_getD]
        rw [List.append_assoc, List.getElem?_append_right (by rw [hlen]; omega), List.getElem?_append_left (by rw [hlen]; omega), hlen]
        have : i * sz + (j + d) - (i * sz + j) = d := by omega
        rw [this, hd]
        rfl
      · simp only [Obj.cell, Obj.sz, List.getD_eq_getElem?_getD] at *
        rcases idx_ne (i := i) (i' := i') h1 g2 g3 with hl | hr
        · rw [List.append_assoc, List.getElem?_append_left (by rw [hlen]; omega), List.getElem?_take, if_pos hl]
        · rw [List.getElem?_append_right (by simp only [List.length_append, hlen]; omega), List.getElem?_drop]
          simp only [List.length_append, hlen]
          congr 2
          omega

end Go.Ab
