/- Of arcs' colours: two colours are swapped along a way (Koenig): the plain laws. -/
import Derived.Test.YtcmaffldmodacaaPlSides
namespace Go.Ab
def tb (L : List (List Int)) (v e : Int) : Int := (L.getD v.toNat []).getD e.toNat 0
def tset (L : List (List Int)) (v e x : Int) : List (List Int) := L.set v.toNat ((L.getD v.toNat []).set e.toNat x)
structure Tab2 (n q : Int) (L : List (List Int)) : Prop where
  len : L.length = n.toNat
  row : ∀ v : Nat, v < n.toNat → (L.getD v []).length = q.toNat
theorem tset_tab {n q : Int} {L : List (List Int)} (h : Tab2 n q L) {v : Int} (v0 : 0 ≤ v) (v1 : v < n) (e x : Int) : Tab2 n q (tset L v e x) := by
  have hl := h.len
  refine ⟨by rw [tset, List.length_set]; exact hl, fun w hw => ?_⟩
  rw [tset]
  by_cases e1 : v.toNat = w
  · subst e1; rw [getD_set_self _ _ _ _ (by omega), List.length_set]; exact h.row _ hw
  · rw [getD_set_ne _ _ _ _ _ e1]; exact h.row w hw
theorem tb_tset {n q : Int} {L : List (List Int)} (h : Tab2 n q L) {v e : Int} (v0 : 0 ≤ v) (v1 : v < n) (e0 : 0 ≤ e) (e1 : e < q) (x : Int) {w g : Int} (w0 : 0 ≤ w) (g0 : 0 ≤ g) : tb (tset L v e x) w g = if v = w ∧ e = g then x else tb L w g := by
  have hl := h.len
  have hr := h.row v.toNat (by omega)
  rw [tb, tset]
  by_cases a : v = w
  · subst a
    rw [getD_set_self _ _ _ _ (by omega)]
    by_cases b : e = g
    · subst b; rw [if_pos ⟨rfl, rfl⟩, getD_set_self _ _ _ _ (by omega)]
    · rw [if_neg (fun h => b h.2), getD_set_ne _ _ _ _ _ (by omega)]; rfl
  · rw [if_neg (fun h => a h.1), getD_set_ne _ _ _ _ _ (by omega)]; rfl
def srcA (es : List Arc) (j : Int) : Int := (es.getD j.toNat default).src
def dstA (es : List Arc) (j : Int) : Int := (es.getD j.toNat default).dst
def colA (C : List Int) (j : Int) : Int := C.getD j.toNat 0
def Inc (es : List Arc) (j v : Int) : Prop := srcA es j = v ∨ dstA es j = v
instance (es : List Arc) (j v : Int) : Decidable (Inc es j v) := by unfold Inc; infer_instance
structure AtOk (es : List Arc) (n q : Int) (K : Nat) (L : List (List Int)) (C : List Int) : Prop where
  tab : Tab2 n q L
  inr : InR n es
  hK : K ≤ es.length
  len : C.length = es.length
  rng : ∀ v e, 0 ≤ v → v < n → 0 ≤ e → e < q → 0 ≤ tb L v e ∧ tb L v e ≤ K
  to : ∀ v e, 0 ≤ v → v < n → 0 ≤ e → e < q → 0 < tb L v e → Inc es (tb L v e - 1) v ∧ colA C (tb L v e - 1) = e
  of : ∀ j : Int, 0 ≤ j → j < K → 0 ≤ colA C j ∧ colA C j < q ∧ ∀ v, Inc es j v → tb L v (colA C j) = j + 1
def TwoSd (es : List Arc) (S : List Int) : Prop := ∀ j : Int, 0 ≤ j → j < es.length → (S.getD (srcA es j).toNat 0 = 0 ∧ S.getD (dstA es j).toNat 0 = 1) ∨ (S.getD (srcA es j).toNat 0 = 1 ∧ S.getD (dstA es j).toNat 0 = 0)
section
variable {es : List Arc} {n q : Int} {K : Nat} {L : List (List Int)} {C S : List Int}
theorem AtOk.inn (h : AtOk es n q K L C) {j v : Int} (j0 : 0 ≤ j) (j1 : j < K) (hv : Inc es j v) : 0 ≤ v ∧ v < n := by
  have hK := h.hK
  obtain ⟨a1, a2, a3, a4⟩ := h.inr _ (getD_mem (d := default) (show j.toNat < es.length by omega))
  rcases hv with r | r
  · subst r; exact ⟨a1, a2⟩
  · subst r; exact ⟨a3, a4⟩
structure SwapIn (es : List Arc) (n q : Int) (K : Nat) (L : List (List Int)) (C S : List Int) (y c d : Int) : Prop where
  at_ : AtOk es n q K L C
  two : TwoSd es S
  y0 : 0 ≤ y
  y1 : y < n
  sy : S.getD y.toNat 0 = 1
  c0 : 0 ≤ c
  c1 : c < q
  d0 : 0 ≤ d
  d1 : d < q
  ne : c ≠ d
  yd : tb L y d = 0
  yc : 0 < tb L y c
structure WayI (es : List Arc) (n : Int) (K : Nat) (L : List (List Int)) (C S : List Int) (y c d : Int) (W : List Int) (node k g : Int) : Prop where
  mem : ∀ j ∈ W, 0 ≤ j ∧ j < K ∧ (colA C j = c ∨ colA C j = d)
  nd : W.Nodup
  gm : g = c ∨ g = d
  kv : tb L node g = k + 1
  v0 : 0 ≤ node
  v1 : node < n
  sd : S.getD node.toNat 0 = if g = c then 1 else 0
  inc : g = c → node = y ∨ ∃ i ∈ W, tb L node d = i + 1
  ind : g = d → ∃ i ∈ W, tb L node c = i + 1
  kn : 0 ≤ k → k ∉ W
  clo : ∀ j ∈ W, ∀ v, Inc es j v → ∀ e, (e = c ∨ e = d) → ∀ i : Int, 0 ≤ i → tb L v e = i + 1 → i ∈ W ∨ (v = node ∧ e = g)
  org0 : ∀ j ∈ W, colA C j = d → ∀ v, Inc es j v → S.getD v.toNat 0 = 0 → ∃ i ∈ W, tb L v c = i + 1
  org1 : ∀ j ∈ W, colA C j = c → ∀ v, Inc es j v → S.getD v.toNat 0 = 1 → v = y ∨ ∃ i ∈ W, tb L v d = i + 1
  fst : (node = y ∧ g = c ∧ W = []) ∨ ∃ i ∈ W, tb L y c = i + 1
theorem SwapIn.start {y c d : Int} (h : SwapIn es n q K L C S y c d) : WayI es n K L C S y c d [] y (tb L y c - 1) c where
  mem := fun j hj => by cases hj
  nd := List.nodup_nil
  gm := .inl rfl
  kv := by omega
  v0 := h.y0
  v1 := h.y1
  sd := by rw [if_pos rfl]; exact h.sy
  inc := fun _ => .inl rfl
  ind := fun e => absurd e h.ne
  kn := fun _ hk => by cases hk
  clo := fun j hj => by cases hj
  org0 := fun j hj => by cases hj
  org1 := fun j hj => by cases hj
  fst := .inl ⟨rfl, rfl, rfl⟩
theorem WayI.len {y c d node k g : Int} {W : List Int} (h : WayI es n K L C S y c d W node k g) : W.length ≤ K := by
  have := nodup_len (l := W) (m := (List.range K).map fun i : Nat => (i : Int)) h.nd (fun x hx => by
    obtain ⟨x0, x1, _⟩ := h.mem x hx
    exact List.mem_map.2 ⟨x.toNat, List.mem_range.2 (by omega), by omega⟩)
  rw [List.length_map, List.length_range] at this; exact this
theorem WayI.next {y c d node k g : Int} {W : List Int} (hi : SwapIn es n q K L C S y c d) (h : WayI es n K L C S y c d W node k g) (hk : 0 ≤ k) : k < K ∧ Inc es k node ∧ colA C k = g ∧ 0 ≤ g ∧ g < q := by
  have hg : 0 ≤ g ∧ g < q := by have := hi.c0; have := hi.c1; have := hi.d0; have := hi.d1; rcases h.gm with r | r <;> omega
  have hkv := h.kv
  have h1 := hi.at_.rng node g h.v0 h.v1 hg.1 hg.2
  have h2 := hi.at_.to node g h.v0 h.v1 hg.1 hg.2 (by omega)
  rw [hkv, show k + 1 - 1 = k by omega] at h2
  exact ⟨by omega, h2.1, h2.2, hg.1, hg.2⟩
theorem WayI.step {y c d node k g : Int} {W : List Int} (hi : SwapIn es n q K L C S y c d) (h : WayI es n K L C S y c d W node k g) (hk : 0 ≤ k) :
    WayI es n K L C S y c d (W ++ [k]) (srcA es k + dstA es k - node) (tb L (srcA es k + dstA es k - node) (c + d - g) - 1) (c + d - g) := by
  obtain ⟨k1, k2, k3, g0, g1⟩ := h.next hi hk
  have hne := hi.ne
  have hyd := hi.yd
  obtain ⟨w, hw⟩ : ∃ w, srcA es k + dstA es k - node = w := ⟨_, rfl⟩
  obtain ⟨f, hf⟩ : ∃ f, c + d - g = f := ⟨_, rfl⟩
  rw [hw, hf]
  have hfm : (g = c ∧ f = d) ∨ (g = d ∧ f = c) := by rcases h.gm with r | r <;> omega
  have hkw : Inc es k w := by rcases k2 with r | r <;> unfold Inc <;> omega
  have hends : ∀ v, Inc es k v → v = node ∨ v = w := fun v hv => by rcases k2 with r | r <;> rcases hv with t | t <;> omega
  obtain ⟨w0, w1⟩ := hi.at_.inn hk k1 hkw
  have hsd := h.sd
  have htw := hi.two k hk (by have := hi.at_.hK; omega)
  have hsw : S.getD w.toNat 0 = if f = c then 1 else 0 := by
    have hc : (S.getD node.toNat 0 = 0 ∧ S.getD w.toNat 0 = 1) ∨ (S.getD node.toNat 0 = 1 ∧ S.getD w.toNat 0 = 0) := by
      rcases k2 with r | r
      · rw [r, show dstA es k = w by omega] at htw; exact htw
      · rw [r, show srcA es k = w by omega] at htw
        rcases htw with ⟨p1, p2⟩ | ⟨p1, p2⟩
        · exact .inr ⟨p2, p1⟩
        · exact .inl ⟨p2, p1⟩
    rcases hfm with ⟨r1, r2⟩ | ⟨r1, r2⟩
    · rw [if_pos r1] at hsd; rw [if_neg (by omega)]; omega
    · rw [if_neg (by omega)] at hsd; rw [if_pos r2]; omega
  have hkwv : tb L w g = k + 1 := by rw [← k3]; exact (hi.at_.of k hk k1).2.2 w hkw
  have hmem : ∀ {x : Int}, x ∈ W → x ∈ W ++ [k] := fun hx => List.mem_append_left _ hx
  have hkm : k ∈ W ++ [k] := List.mem_append_right _ (List.mem_singleton.2 rfl)
  refine ⟨fun j hj => ?_, ?_, ?_, by omega, w0, w1, hsw, fun e => ?_, fun e => ?_, fun hk2 hin => ?_, fun j hj v hv e he i i0 ht => ?_, fun j hj hcj v hv hs => ?_, fun j hj hcj v hv hs => ?_, .inr ?_⟩
  · rcases List.mem_append.1 hj with r | r
    · exact h.mem j r
    · rw [List.mem_singleton] at r; subst r; exact ⟨hk, k1, by rw [k3]; exact h.gm⟩
  · exact List.nodup_append.2 ⟨h.nd, List.nodup_cons.2 ⟨by simp, List.nodup_nil⟩, fun a ha b hb => by rw [List.mem_singleton] at hb; subst hb; exact fun e => h.kn hk (e ▸ ha)⟩
  · rcases hfm with r | r <;> omega
  · rcases hfm with ⟨r1, r2⟩ | ⟨r1, r2⟩
    · omega
    · exact .inr ⟨k, hkm, by rw [← r1]; exact hkwv⟩
  · rcases hfm with ⟨r1, r2⟩ | ⟨r1, r2⟩
    · exact ⟨k, hkm, by rw [← r1]; exact hkwv⟩
    · omega
  ·
    obtain ⟨p, hp⟩ : ∃ p, tb L w f - 1 = p := ⟨_, rfl⟩
    rw [hp] at hk2 hin
    have f0 : 0 ≤ f ∧ f < q := by have := hi.c0; have := hi.c1; have := hi.d0; have := hi.d1; omega
    obtain ⟨t1, t2⟩ := hi.at_.to w f w0 w1 f0.1 f0.2 (by omega)
    rw [hp] at t1 t2
    rcases List.mem_append.1 hin with r | r
    · rcases hfm with ⟨r1, r2⟩ | ⟨r1, r2⟩
      · obtain ⟨i, i1, i2⟩ := h.org0 p r (by omega) w t1 (by rw [hsw, if_neg (by omega)])
        rw [← r1, hkwv] at i2
        exact h.kn hk (by rw [show k = i by omega]; exact i1)
      · rcases h.org1 p r (by omega) w t1 (by rw [hsw, if_pos r2]) with i1 | ⟨i, i1, i2⟩
        · rw [← i1, ← r1] at hyd; omega
        · rw [← r1, hkwv] at i2
          exact h.kn hk (by rw [show k = i by omega]; exact i1)
    · rw [List.mem_singleton] at r
      rw [r, k3] at t2
      omega
  · rcases List.mem_append.1 hj with r | r
    · rcases h.clo j r v hv e he i i0 ht with s1 | ⟨s1, s2⟩
      · exact .inl (hmem s1)
      · refine .inl ?_
        rw [s1, s2, h.kv] at ht
        rw [show i = k by omega]; exact hkm
    · rw [List.mem_singleton] at r; subst r
      rcases hends v hv with s1 | s1
      · subst s1
        by_cases eg : e = g
        · rw [eg, h.kv] at ht
          exact .inl (by rw [show i = j by omega]; exact hkm)
        · have ef : e = f := by omega
          rcases hfm with ⟨r1, r2⟩ | ⟨r1, r2⟩
          · rcases h.inc r1 with u | ⟨i2, u1, u2⟩
            · rw [u, ef, r2] at ht; omega
            · rw [ef, r2] at ht
              exact .inl (hmem (by rw [show i = i2 by omega]; exact u1))
          · obtain ⟨i2, u1, u2⟩ := h.ind r1
            rw [ef, r2] at ht
            exact .inl (hmem (by rw [show i = i2 by omega]; exact u1))
      · subst s1
        by_cases eg : e = g
        · rw [eg, hkwv] at ht
          exact .inl (by rw [show i = j by omega]; exact hkm)
        · exact .inr ⟨rfl, by omega⟩
  · rcases List.mem_append.1 hj with r | r
    · obtain ⟨i, i1, i2⟩ := h.org0 j r hcj v hv hs
      exact ⟨i, hmem i1, i2⟩
    · rw [List.mem_singleton] at r; subst r
      have hgd : g = d := by omega
      rcases hends v hv with s1 | s1
      · subst s1
        obtain ⟨i, i1, i2⟩ := h.ind hgd
        exact ⟨i, hmem i1, i2⟩
      · subst s1; rw [hsw, if_pos (by omega)] at hs; omega
  · rcases List.mem_append.1 hj with r | r
    · rcases h.org1 j r hcj v hv hs with s1 | ⟨i, i1, i2⟩
      · exact .inl s1
      · exact .inr ⟨i, hmem i1, i2⟩
    · rw [List.mem_singleton] at r; subst r
      have hgc : g = c := by omega
      rcases hends v hv with s1 | s1
      · subst s1
        rcases h.inc hgc with u | ⟨i, i1, i2⟩
        · exact .inl u
        · exact .inr ⟨i, hmem i1, i2⟩
      · subst s1; rw [hsw, if_neg (by omega)] at hs; omega
  · rcases h.fst with ⟨s1, s2, s3⟩ | ⟨i, i1, i2⟩
    · have := h.kv
      rw [s1, s2] at this
      exact ⟨k, hkm, this⟩
    · exact ⟨i, hmem i1, i2⟩
structure WayE (es : List Arc) (K : Nat) (L : List (List Int)) (C S : List Int) (y c d : Int) (W : List Int) : Prop where
  mem : ∀ j ∈ W, 0 ≤ j ∧ j < K ∧ (colA C j = c ∨ colA C j = d)
  nd : W.Nodup
  clo : ∀ j ∈ W, ∀ v, Inc es j v → ∀ e, (e = c ∨ e = d) → ∀ i : Int, 0 ≤ i → tb L v e = i + 1 → i ∈ W
  org0 : ∀ j ∈ W, colA C j = d → ∀ v, Inc es j v → S.getD v.toNat 0 = 0 → ∃ i ∈ W, tb L v c = i + 1
  fst : ∃ i ∈ W, tb L y c = i + 1
theorem WayI.end_ {y c d node k g : Int} {W : List Int} (hi : SwapIn es n q K L C S y c d) (h : WayI es n K L C S y c d W node k g) (hk : k < 0) : WayE es K L C S y c d W := by
  have hkv := h.kv
  refine ⟨h.mem, h.nd, fun j hj v hv e he i i0 ht => (h.clo j hj v hv e he i i0 ht).resolve_right (fun q => ?_), h.org0, h.fst.resolve_left (fun q => ?_)⟩
  · rw [q.1, q.2] at ht; omega
  · have := hi.yc
    rw [q.1, q.2.1] at hkv; omega
theorem WayI.more {y c d node k g : Int} {W : List Int} (hi : SwapIn es n q K L C S y c d) (h : WayI es n K L C S y c d W node k g) (hk : 0 ≤ k) :
    k < K ∧ (0 ≤ (es.getD k.toNat default).src ∧ (es.getD k.toNat default).src < n) ∧ (0 ≤ (es.getD k.toNat default).dst ∧ (es.getD k.toNat default).dst < n) ∧ (0 ≤ (es.getD k.toNat default).src + (es.getD k.toNat default).dst - node ∧ (es.getD k.toNat default).src + (es.getD k.toNat default).dst - node < n) ∧
    (0 ≤ c + d - C.getD k.toNat 0 ∧ c + d - C.getD k.toNat 0 < q) ∧ (0 ≤ C.getD k.toNat 0 ∧ C.getD k.toNat 0 < q) ∧ (L.getD ((es.getD k.toNat default).src + (es.getD k.toNat default).dst - node).toNat []).length = q.toNat ∧
    (0 ≤ (L.getD ((es.getD k.toNat default).src + (es.getD k.toNat default).dst - node).toNat []).getD (c + d - C.getD k.toNat 0).toNat 0 ∧ (L.getD ((es.getD k.toNat default).src + (es.getD k.toNat default).dst - node).toNat []).getD (c + d - C.getD k.toNat 0).toNat 0 ≤ K) ∧ W.length + 1 ≤ K ∧
    WayI es n K L C S y c d (W ++ [k]) ((es.getD k.toNat default).src + (es.getD k.toNat default).dst - node) ((L.getD ((es.getD k.toNat default).src + (es.getD k.toNat default).dst - node).toNat []).getD (c + d - C.getD k.toNat 0).toNat 0 - 1) (c + d - C.getD k.toNat 0) := by
  obtain ⟨k1, k2, k3, g0, g1⟩ := h.next hi hk
  have hs := h.step hi hk
  have hl := hs.len
  have hgg : 0 ≤ c + d - g ∧ c + d - g < q := by have := hi.c0; have := hi.c1; have := hi.d0; have := hi.d1; rcases h.gm with r | r <;> omega
  have e : C.getD k.toNat 0 = g := k3
  rw [e]
  rw [List.length_append, List.length_singleton] at hl
  exact ⟨k1, hi.at_.inn hk k1 (.inl rfl), hi.at_.inn hk k1 (.inr rfl), ⟨hs.v0, hs.v1⟩, hgg, ⟨g0, g1⟩, hi.at_.tab.row _ (by have := hs.v0; have := hs.v1; unfold srcA dstA at *; omega), hi.at_.rng _ _ hs.v0 hs.v1 hgg.1 hgg.2, hl, hs⟩
theorem WayE.at_ {y c d k : Int} {W : List Int} {i : Nat} (hi : SwapIn es n q K L C S y c d) (hw : WayE es K L C S y c d W) (hil : i < W.length) (hk : W.getD i 0 = k) :
    0 ≤ k ∧ k < K ∧ (0 ≤ (es.getD k.toNat default).src ∧ (es.getD k.toNat default).src < n) ∧ (0 ≤ (es.getD k.toNat default).dst ∧ (es.getD k.toNat default).dst < n) ∧ (0 ≤ c + d - C.getD k.toNat 0 ∧ c + d - C.getD k.toNat 0 < q) ∧ (0 ≤ C.getD k.toNat 0 ∧ C.getD k.toNat 0 < q) := by
  obtain ⟨k0, k1, k2⟩ := hw.mem k (by rw [← hk]; exact getD_mem hil)
  have h3 : C.getD k.toNat 0 = c ∨ C.getD k.toNat 0 = d := k2
  have := hi.c0; have := hi.c1; have := hi.d0; have := hi.d1
  exact ⟨k0, k1, hi.at_.inn k0 k1 (.inl rfl), hi.at_.inn k0 k1 (.inr rfl), by omega, by omega⟩
structure OffI (es : List Arc) (n q : Int) (L : List (List Int)) (C : List Int) (W : List Int) (i : Nat) (L1 : List (List Int)) : Prop where
  tab : Tab2 n q L1
  zero : ∀ j ∈ W.take i, ∀ v, Inc es j v → tb L1 v (colA C j) = 0
  keep : ∀ v e, 0 ≤ v → v < n → 0 ≤ e → e < q → (∀ j ∈ W.take i, ¬ (Inc es j v ∧ colA C j = e)) → tb L1 v e = tb L v e
theorem OffI.start {W : List Int} (h : AtOk es n q K L C) : OffI es n q L C W 0 L := ⟨h.tab, fun j hj => (by simp at hj), fun _ _ _ _ _ _ _ => rfl⟩
theorem OffI.step {y c d : Int} {W : List Int} {i : Nat} {L1 : List (List Int)} (hi : SwapIn es n q K L C S y c d) (hw : WayE es K L C S y c d W) (h : OffI es n q L C W i L1) (hil : i < W.length) {k : Int} (hk : W.getD i 0 = k) : OffI es n q L C W (i + 1) (tset (tset L1 (srcA es k) (colA C k) 0) (dstA es k) (colA C k) 0) := by
  have hm : k ∈ W := by rw [← hk]; exact getD_mem hil
  obtain ⟨k0, k1, k2⟩ := hw.mem k hm
  obtain ⟨a1, a2⟩ := hi.at_.inn k0 k1 (.inl rfl)
  obtain ⟨b1, b2⟩ := hi.at_.inn k0 k1 (.inr rfl)
  obtain ⟨c1, c2, _⟩ := hi.at_.of k k0 k1
  have h1 := tset_tab h.tab a1 a2 (colA C k) 0
  have htk : W.take (i + 1) = W.take i ++ [k] := by rw [take_getD W 0 i hil, hk]
  have hget : ∀ v e, 0 ≤ v → 0 ≤ e → tb (tset (tset L1 (srcA es k) (colA C k) 0) (dstA es k) (colA C k) 0) v e = if Inc es k v ∧ colA C k = e then 0 else tb L1 v e := fun v e v0 e0 => by
    rw [tb_tset h1 b1 b2 c1 c2 0 v0 e0, tb_tset h.tab a1 a2 c1 c2 0 v0 e0]
    by_cases p : dstA es k = v ∧ colA C k = e
    · rw [if_pos p, if_pos ⟨.inr p.1, p.2⟩]
    · rw [if_neg p]
      by_cases p2 : srcA es k = v ∧ colA C k = e
      · rw [if_pos p2, if_pos ⟨.inl p2.1, p2.2⟩]
      · rw [if_neg p2, if_neg]
        rintro ⟨r | r, s⟩
        · exact p2 ⟨r, s⟩
        · exact p ⟨r, s⟩
  refine ⟨tset_tab h1 b1 b2 _ _, fun j hj v hv => ?_, fun v e v0 v1 e0 e1 hno => ?_⟩
  · have hjm : j ∈ W := List.mem_of_mem_take hj
    obtain ⟨j0, j1, _⟩ := hw.mem j hjm
    have hvn := hi.at_.inn j0 j1 hv
    have hcj := hi.at_.of j j0 j1
    rw [hget v _ hvn.1 hcj.1]
    split
    · rfl
    · rename_i hne
      rw [htk] at hj
      rcases List.mem_append.1 hj with r | r
      · exact h.zero j r v hv
      · rw [List.mem_singleton] at r; subst r; exact absurd ⟨hv, rfl⟩ hne
  · rw [hget v e v0 e0, if_neg (hno k (by rw [htk]; exact List.mem_append_right _ (List.mem_singleton.2 rfl)))]
    exact h.keep v e v0 v1 e0 e1 (fun j hj => hno j (by rw [htk]; exact List.mem_append_left _ hj))
structure OnI (es : List Arc) (n q : Int) (L1 : List (List Int)) (C : List Int) (c d : Int) (W : List Int) (i : Nat) (L2 : List (List Int)) (C2 : List Int) : Prop where
  tab : Tab2 n q L2
  len : C2.length = C.length
  new : ∀ j ∈ W.take i, colA C2 j = c + d - colA C j
  old : ∀ j : Int, 0 ≤ j → j ∉ W.take i → colA C2 j = colA C j
  put : ∀ j ∈ W.take i, ∀ v, Inc es j v → tb L2 v (c + d - colA C j) = j + 1
  keep : ∀ v e, 0 ≤ v → v < n → 0 ≤ e → e < q → (∀ j ∈ W.take i, ¬ (Inc es j v ∧ c + d - colA C j = e)) → tb L2 v e = tb L1 v e
theorem OnI.start {c d : Int} {W : List Int} {L1 : List (List Int)} (h : Tab2 n q L1) : OnI es n q L1 C c d W 0 L1 C := ⟨h, rfl, fun j hj => (by simp at hj), fun _ _ _ => rfl, fun j hj => (by simp at hj), fun _ _ _ _ _ _ _ => rfl⟩
theorem OnI.step {y c d : Int} {W : List Int} {i : Nat} {L1 L2 : List (List Int)} {C2 : List Int} (hi : SwapIn es n q K L C S y c d) (hw : WayE es K L C S y c d W) (h : OnI es n q L1 C c d W i L2 C2) (hil : i < W.length) {k : Int} (hk : W.getD i 0 = k) :
    colA C2 k = colA C k ∧ OnI es n q L1 C c d W (i + 1) (tset (tset L2 (srcA es k) (c + d - colA C k) (k + 1)) (dstA es k) (c + d - colA C k) (k + 1)) (C2.set k.toNat (c + d - colA C k)) := by
  have hm : k ∈ W := by rw [← hk]; exact getD_mem hil
  obtain ⟨k0, k1, k2⟩ := hw.mem k hm
  obtain ⟨a1, a2⟩ := hi.at_.inn k0 k1 (.inl rfl)
  obtain ⟨b1, b2⟩ := hi.at_.inn k0 k1 (.inr rfl)
  have hcr : 0 ≤ c + d - colA C k ∧ c + d - colA C k < q := by have := hi.c0; have := hi.c1; have := hi.d0; have := hi.d1; omega
  have h1 := tset_tab h.tab a1 a2 (c + d - colA C k) (k + 1)
  have htk : W.take (i + 1) = W.take i ++ [k] := by rw [take_getD W 0 i hil, hk]
  have hnk : k ∉ W.take i := fun hin => by
    have hnd := hw.nd
    rw [← List.take_append_drop (i + 1) W, htk] at hnd
    have := (List.nodup_append.1 (List.nodup_append.1 hnd).1).2.2 k hin k (List.mem_singleton.2 rfl)
    exact this rfl
  have hClen : k.toNat < C2.length := by rw [h.len, hi.at_.len]; have := hi.at_.hK; omega
  have hget : ∀ v e, 0 ≤ v → 0 ≤ e → tb (tset (tset L2 (srcA es k) (c + d - colA C k) (k + 1)) (dstA es k) (c + d - colA C k) (k + 1)) v e = if Inc es k v ∧ c + d - colA C k = e then k + 1 else tb L2 v e := fun v e v0 e0 => by
    rw [tb_tset h1 b1 b2 hcr.1 hcr.2 _ v0 e0, tb_tset h.tab a1 a2 hcr.1 hcr.2 _ v0 e0]
    by_cases p : dstA es k = v ∧ c + d - colA C k = e
    · rw [if_pos p, if_pos ⟨.inr p.1, p.2⟩]
    · rw [if_neg p]
      by_cases p2 : srcA es k = v ∧ c + d - colA C k = e
      · rw [if_pos p2, if_pos ⟨.inl p2.1, p2.2⟩]
      · rw [if_neg p2, if_neg]
        rintro ⟨r | r, s⟩
        · exact p2 ⟨r, s⟩
        · exact p ⟨r, s⟩
  refine ⟨h.old k k0 hnk, tset_tab h1 b1 b2 _ _, by rw [List.length_set]; exact h.len, fun j hj => ?_, fun j j0 hj => ?_, fun j hj v hv => ?_, fun v e v0 v1 e0 e1 hno => ?_⟩
  · have hjm : j ∈ W := List.mem_of_mem_take hj
    obtain ⟨j0, j1, _⟩ := hw.mem j hjm
    rw [htk] at hj
    rcases List.mem_append.1 hj with r | r
    · have : j ≠ k := fun e => hnk (e ▸ r)
      rw [colA, getD_set_ne _ _ _ _ _ (by omega)]; exact h.new j r
    · rw [List.mem_singleton] at r; subst r
      rw [colA, getD_set_self _ _ _ _ hClen]
  · have hjk : j ≠ k := fun e => hj (by rw [htk, e]; exact List.mem_append_right _ (List.mem_singleton.2 rfl))
    rw [colA, getD_set_ne _ _ _ _ _ (by omega)]
    exact h.old j j0 (fun r => hj (by rw [htk]; exact List.mem_append_left _ r))
  · have hjm : j ∈ W := List.mem_of_mem_take hj
    obtain ⟨j0, j1, j2⟩ := hw.mem j hjm
    have hvn := hi.at_.inn j0 j1 hv
    have hcj : 0 ≤ c + d - colA C j := by have := hi.c0; have := hi.d0; omega
    rw [hget v _ hvn.1 hcj]
    split
    · rename_i hy
      have t1 := (hi.at_.of j j0 j1).2.2 v hv
      have t2 := (hi.at_.of k k0 k1).2.2 v hy.1
      rw [show colA C k = colA C j by omega] at t2
      omega
    · rename_i hne
      rw [htk] at hj
      rcases List.mem_append.1 hj with r | r
      · exact h.put j r v hv
      · rw [List.mem_singleton] at r; subst r; exact absurd ⟨hv, rfl⟩ hne
  · rw [hget v e v0 e0, if_neg (hno k (by rw [htk]; exact List.mem_append_right _ (List.mem_singleton.2 rfl)))]
    exact h.keep v e v0 v1 e0 e1 (fun j hj => hno j (by rw [htk]; exact List.mem_append_left _ hj))
structure SwapOk (es : List Arc) (n q : Int) (K : Nat) (L : List (List Int)) (S : List Int) (y c : Int) (L2 : List (List Int)) (C2 : List Int) : Prop where
  at_ : AtOk es n q K L2 C2
  y : tb L2 y c = 0
  x : ∀ x, 0 ≤ x → x < n → S.getD x.toNat 0 = 0 → tb L x c = 0 → tb L2 x c = 0
theorem OnI.fin {y c d : Int} {W : List Int} {i j : Nat} {L1 L2 : List (List Int)} {C2 : List Int} (hi : SwapIn es n q K L C S y c d) (hw : WayE es K L C S y c d W) (h1 : OffI es n q L C W i L1) (h2 : OnI es n q L1 C c d W j L2 C2) (hil : W.length ≤ i) (hjl : W.length ≤ j) : SwapOk es n q K L S y c L2 C2 := by
  obtain ⟨t1, z1, k1⟩ := h1
  obtain ⟨t2, n2, w2, o2, p2, k2⟩ := h2
  rw [List.take_of_length_le hil] at z1 k1
  rw [List.take_of_length_le hjl] at w2 o2 p2 k2
  have hcd : 0 ≤ c ∧ c < q ∧ 0 ≤ d ∧ d < q := ⟨hi.c0, hi.c1, hi.d0, hi.d1⟩
  have hyd := hi.yd
  have hne := hi.ne
  have key : ∀ v e, 0 ≤ v → v < n → 0 ≤ e → e < q → (∃ j ∈ W, Inc es j v ∧ c + d - colA C j = e ∧ tb L2 v e = j + 1) ∨ ((∀ j ∈ W, ¬ (Inc es j v ∧ c + d - colA C j = e)) ∧ ((tb L2 v e = 0 ∧ ∃ j ∈ W, Inc es j v ∧ colA C j = e) ∨ (tb L2 v e = tb L v e ∧ ∀ j ∈ W, ¬ (Inc es j v ∧ colA C j = e)))) := fun v e v0 v1 e0 e1 => by
    by_cases a : ∃ j ∈ W, Inc es j v ∧ c + d - colA C j = e
    · obtain ⟨j, j1, j2, j3⟩ := a
      exact .inl ⟨j, j1, j2, j3, by rw [← j3]; exact p2 j j1 v j2⟩
    · have a' : ∀ j ∈ W, ¬ (Inc es j v ∧ c + d - colA C j = e) := fun j hj q => a ⟨j, hj, q⟩
      refine .inr ⟨a', ?_⟩
      rw [k2 v e v0 v1 e0 e1 a']
      by_cases b : ∃ j ∈ W, Inc es j v ∧ colA C j = e
      · obtain ⟨j, j1, j2, j3⟩ := b
        exact .inl ⟨by rw [← j3]; exact z1 j j1 v j2, j, j1, j2, j3⟩
      · have b' : ∀ j ∈ W, ¬ (Inc es j v ∧ colA C j = e) := fun j hj q => b ⟨j, hj, q⟩
        exact .inr ⟨k1 v e v0 v1 e0 e1 b', b'⟩
  refine ⟨⟨t2, hi.at_.inr, hi.at_.hK, by rw [n2]; exact hi.at_.len, fun v e v0 v1 e0 e1 => ?_, fun v e v0 v1 e0 e1 hp => ?_, fun j j0 j1 => ?_⟩, ?_, fun x x0 x1 hs hx => ?_⟩
  · rcases key v e v0 v1 e0 e1 with ⟨j, j1, j2, j3, j4⟩ | ⟨_, ⟨r, _⟩ | ⟨r, _⟩⟩
    · obtain ⟨m1, m2, _⟩ := hw.mem j j1; omega
    · omega
    · rw [r]; exact hi.at_.rng v e v0 v1 e0 e1
  · rcases key v e v0 v1 e0 e1 with ⟨j, j1, j2, j3, j4⟩ | ⟨_, ⟨r, _⟩ | ⟨r, r2⟩⟩
    · rw [j4, show j + 1 - 1 = j by omega]
      exact ⟨j2, by rw [w2 j j1]; exact j3⟩
    · omega
    · rw [r] at hp ⊢
      obtain ⟨q1, q2⟩ := hi.at_.to v e v0 v1 e0 e1 hp
      exact ⟨q1, by rw [o2 _ (by omega) (fun hm => r2 _ hm ⟨q1, q2⟩)]; exact q2⟩
  · obtain ⟨g1, g2, g3⟩ := hi.at_.of j j0 j1
    by_cases hm : j ∈ W
    · have hcj := (hw.mem j hm).2.2
      rw [w2 j hm]
      exact ⟨by omega, by omega, fun v hv => p2 j hm v hv⟩
    · rw [o2 j j0 hm]
      refine ⟨g1, g2, fun v hv => ?_⟩
      obtain ⟨v0, v1⟩ := hi.at_.inn j0 j1 hv
      have ht := g3 v hv
      rcases key v (colA C j) v0 v1 g1 g2 with ⟨i, i1, i2, i3, i4⟩ | ⟨_, ⟨_, i, i1, i2, i3⟩ | ⟨r, _⟩⟩
      · have hci := (hw.mem i i1).2.2
        exact absurd (hw.clo i i1 v i2 (colA C j) (by omega) j j0 ht) hm
      · obtain ⟨m1, m2, _⟩ := hw.mem i i1
        have := (hi.at_.of i m1 m2).2.2 v i2
        rw [i3, ht] at this
        exact absurd (by rw [show j = i by omega]; exact i1) hm
      · rw [r]; exact ht
  · rcases key y c hi.y0 hi.y1 hcd.1 hcd.2.1 with ⟨j, j1, j2, j3, j4⟩ | ⟨_, ⟨r, _⟩ | ⟨_, r2⟩⟩
    · obtain ⟨m1, m2, _⟩ := hw.mem j j1
      have := (hi.at_.of j m1 m2).2.2 y j2
      rw [show colA C j = d by omega] at this
      omega
    · exact r
    · obtain ⟨i, i1, i2⟩ := hw.fst
      have := hi.at_.to y c hi.y0 hi.y1 hcd.1 hcd.2.1 hi.yc
      rw [i2, show i + 1 - 1 = i by omega] at this
      exact absurd this (r2 i i1)
  · rcases key x c x0 x1 hcd.1 hcd.2.1 with ⟨j, j1, j2, j3, j4⟩ | ⟨_, ⟨r, _⟩ | ⟨r, _⟩⟩
    · obtain ⟨i, i1, i2⟩ := hw.org0 j j1 (by omega) x j2 hs
      have := (hw.mem i i1).1
      omega
    · exact r
    · rw [r]; exact hx
theorem AtOk.put {k : Int} {c : Int} (h : AtOk es n q K L C) (hk : k = K) (hlt : K < es.length) (c0 : 0 ≤ c) (c1 : c < q) (hs : tb L (srcA es k) c = 0) (hd : tb L (dstA es k) c = 0) {x y : Int} (hxy : (x = srcA es k ∧ y = dstA es k) ∨ (x = dstA es k ∧ y = srcA es k)) : AtOk es n q (K + 1) (tset (tset L x c (k + 1)) y c (k + 1)) (C.set K c) := by
  obtain ⟨a1, a2, a3, a4⟩ := h.inr _ (getD_mem (d := default) hlt)
  have hkK : k.toNat = K := by omega
  have s0 : 0 ≤ srcA es k ∧ srcA es k < n ∧ 0 ≤ dstA es k ∧ dstA es k < n := by unfold srcA dstA; rw [hkK]; exact ⟨a1, a2, a3, a4⟩
  have x0 : 0 ≤ x ∧ x < n ∧ 0 ≤ y ∧ y < n := by omega
  have h1 := tset_tab h.tab x0.1 x0.2.1 c (k + 1)
  have hget : ∀ v e, 0 ≤ v → 0 ≤ e → tb (tset (tset L x c (k + 1)) y c (k + 1)) v e = if Inc es k v ∧ c = e then k + 1 else tb L v e := fun v e v0 e0 => by
    rw [tb_tset h1 x0.2.2.1 x0.2.2.2 c0 c1 _ v0 e0, tb_tset h.tab x0.1 x0.2.1 c0 c1 _ v0 e0]
    by_cases p : y = v ∧ c = e
    · rw [if_pos p, if_pos ⟨by unfold Inc; omega, p.2⟩]
    · rw [if_neg p]
      by_cases p2 : x = v ∧ c = e
      · rw [if_pos p2, if_pos ⟨by unfold Inc; omega, p2.2⟩]
      · rw [if_neg p2, if_neg]
        rintro ⟨r, s⟩
        unfold Inc at r; omega
  have hCk : ∀ j : Int, 0 ≤ j → j ≠ k → colA (C.set K c) j = colA C j := fun j j0 hj => by rw [colA, getD_set_ne _ _ _ _ _ (by omega)]; rfl
  have hCs : colA (C.set K c) k = c := by rw [colA, hkK]; exact getD_set_self _ _ _ _ (by rw [h.len]; exact hlt)
  refine ⟨tset_tab h1 x0.2.2.1 x0.2.2.2 _ _, h.inr, hlt, by rw [List.length_set]; exact h.len, fun v e v0 v1 e0 e1 => ?_, fun v e v0 v1 e0 e1 => ?_, fun j j0 j1 => ?_⟩
  · have := h.rng v e v0 v1 e0 e1
    rw [hget v e v0 e0]; split <;> omega
  · rw [hget v e v0 e0]
    split
    · rename_i p
      intro _
      rw [show k + 1 - 1 = k by omega]
      exact ⟨p.1, by rw [hCs]; exact p.2⟩
    · intro hp
      have := h.rng v e v0 v1 e0 e1
      obtain ⟨q1, q2⟩ := h.to v e v0 v1 e0 e1 hp
      exact ⟨q1, by rw [hCk _ (by omega) (by omega)]; exact q2⟩
  · by_cases e : j = k
    · subst e
      rw [hCs]
      exact ⟨c0, c1, fun v hv => by
        have hv0 : 0 ≤ v := by unfold Inc at hv; omega
        rw [hget v c hv0 c0, if_pos ⟨hv, rfl⟩]⟩
    · obtain ⟨g1, g2, g3⟩ := h.of j j0 (by omega)
      rw [hCk j j0 e]
      refine ⟨g1, g2, fun v hv => ?_⟩
      have hvn := h.inn j0 (by omega) hv
      rw [hget v _ hvn.1 g1, if_neg]
      · exact g3 v hv
      · rintro ⟨r1, r2⟩
        have := g3 v hv
        rw [← r2] at this
        rcases r1 with t | t <;> (subst t; omega)
end
end Go.Ab
