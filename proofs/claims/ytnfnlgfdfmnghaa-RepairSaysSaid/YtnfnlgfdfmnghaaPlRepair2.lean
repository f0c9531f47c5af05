/- Of a net that changes, and what went goes on: the plain laws that the walks ask for. -/
import Derived.Test.YtnfnlgfdfmnghaaPlRepair
import Derived.Test.YtnfnlgfdfmnghaaPlPaths
namespace Go.Ab
def RepRes (n s t : Int) (es : List Arc) (x : Int) (N S T : Int) (A : List Arc) (g : List Int) (v e : Int) : Prop :=
  e = x ∧ ((x ≠ 0 ∧ N = 0 ∧ S = 0 ∧ T = 0 ∧ A = [] ∧ g = [] ∧ v = 0) ∨ (x = 0 ∧ N = n ∧ S = s ∧ T = t ∧ A = es ∧ FlOk n s t es g ∧ gone es g s = v ∧ v = (parted n s t es).1))
theorem RepRes.bad {n s t x : Int} {es : List Arc} (h : x ≠ 0) : RepRes n s t es x 0 0 0 [] [] 0 x := ⟨rfl, .inl ⟨h, rfl, rfl, rfl, rfl, rfl, rfl⟩⟩
theorem RepRes.good {n s t v : Int} {es : List Arc} {f g : List Int} (hf : FlOk n s t es f) (h : MostOk n s t es (flowErr n s t es f) g v) : RepRes n s t es 0 n s t es g v (flowErr n s t es f) := by
  have hE := flowErr_of hf hf.net.err
  rcases h with ⟨q, _⟩ | ⟨_, q1, q2, q3⟩
  · exact absurd hE q
  · exact ⟨hE, .inr ⟨rfl, rfl, rfl, rfl, rfl, q1, q2, q3⟩⟩
def capErr2 (n s t : Int) (es : List Arc) (f : List Int) (k takes : Int) : Int := if repErr n s t es f ≠ 0 then repErr n s t es f else if k < 0 ∨ (es.length : Int) ≤ k then 5 else if takes < 0 ∨ 10000 < takes then 1 else 0
theorem capErr2_rep {n s t k takes : Int} {es : List Arc} {f : List Int} (h : repErr n s t es f ≠ 0) : capErr2 n s t es f k takes = repErr n s t es f := by rw [capErr2, if_pos h]
theorem capErr2_k {n s t k takes : Int} {es : List Arc} {f : List Int} (h : repErr n s t es f = 0) (hk : k < 0 ∨ (es.length : Int) ≤ k) : capErr2 n s t es f k takes = 5 := by rw [capErr2, if_neg (by omega), if_pos hk]
theorem capErr2_takes {n s t k takes : Int} {es : List Arc} {f : List Int} (h : repErr n s t es f = 0) (hk : ¬ (k < 0 ∨ (es.length : Int) ≤ k)) (ht : takes < 0 ∨ 10000 < takes) : capErr2 n s t es f k takes = 1 := by rw [capErr2, if_neg (by omega), if_neg hk, if_pos ht]
theorem capErr2_ok {n s t k takes : Int} {es : List Arc} {f : List Int} (h : repErr n s t es f = 0) (hk : ¬ (k < 0 ∨ (es.length : Int) ≤ k)) (ht : ¬ (takes < 0 ∨ 10000 < takes)) : capErr2 n s t es f k takes = 0 := by rw [capErr2, if_neg (by omega), if_neg hk, if_neg ht]
def addErr (n s t : Int) (es : List Arc) (f : List Int) (m u v : Int) (fs : List Arc) : Int := if repErr n s t es f ≠ 0 then repErr n s t es f else netErr m u v fs
theorem addErr_rep {n s t m u v : Int} {es fs : List Arc} {f : List Int} (h : repErr n s t es f ≠ 0) : addErr n s t es f m u v fs = repErr n s t es f := by rw [addErr, if_pos h]
theorem addErr_net {n s t m u v : Int} {es fs : List Arc} {f : List Int} (h : repErr n s t es f = 0) : addErr n s t es f m u v fs = netErr m u v fs := by rw [addErr, if_neg (by omega)]
theorem gone_nn {n s t : Int} {es : List Arc} {f : List Int} (hf : FlOk n s t es f) (h : gone es f s = (parted n s t es).1) : 0 ≤ gone es f s := by
  obtain ⟨z, hz⟩ := MinCut.exists_ hf.net
  rw [h, ← hz.2]
  exact (capOf_in hf.net.toGOk hz.1.1).1
theorem drop_cons {α : Type} {l : List α} {i : Nat} (d : α) (h : i < l.length) : l.drop i = l.getD i d :: l.drop (i + 1) := by
  rw [getD_lt l d i h]; exact List.drop_eq_getElem_cons h
theorem capStep_no {k takes : Int} {g : List Int} {p : Int × List Int} (h : k ∉ p.2) : capStep k takes g p = g := if_neg h
theorem capStep_yes {k takes : Int} {g : List Int} {p : Int × List Int} (h : k ∈ p.2) : capStep k takes g p = takeOff (capLess k takes g p) g p.2 := if_pos h
theorem capLess_in {k takes : Int} {g : List Int} {p : Int × List Int} (h : 1 ≤ p.1) : 0 ≤ capLess k takes g p ∧ capLess k takes g p ≤ p.1 := by unfold capLess; omega
theorem CapInv.in10 {n s t : Int} {es : List Arc} {f g : List Int} {k takes : Int} {L : List (Int × List Int)} (h : CapInv s t es f k takes g L) (hL : ∀ p ∈ L, PcOk es p) (hf : FlOk n s t es f) (j : Nat) (hj : j < es.length) : 0 ≤ g.getD j 0 ∧ g.getD j 0 ≤ 10000 := by
  have h1 := h.lo j hj
  have h2 := h.hi j hj
  have h3 := hf.f10 j hj
  have h4 := usedOf_nonneg (es := es) j hL
  omega
end Go.Ab
namespace Go.Ab
theorem split_rounds {n s t : Int} {es : List Arc} {f : List Int} {ways rounds : List (Int × List Int)} {e : Int} (h : SplitOk n s t es f ways rounds e) : ways.length + rounds.length ≤ es.length := by
  rcases h with ⟨_, _, q, q2⟩ | ⟨_, _, _, q, q2⟩ | ⟨_, _, _, _, _, _, _, q⟩
  · rw [q, q2]; exact Nat.zero_le _
  · rw [q, q2]; exact Nat.zero_le _
  · exact q
theorem split_len {n s t : Int} {es : List Arc} {f : List Int} {ways rounds : List (Int × List Int)} {e : Int} (h : SplitOk n s t es f ways rounds e) : ways.length ≤ es.length := by
  have := split_rounds h
  omega
end Go.Ab
namespace Go.Ab
theorem split_rr {n s t : Int} {es : List Arc} {f : List Int} {ways rounds : List (Int × List Int)} {e : Int} (h : SplitOk n s t es f ways rounds e) : ∀ p ∈ rounds, ∃ x, Pc es p x x := fun p hp => by
  rcases h with ⟨_, _, _, q⟩ | ⟨_, _, _, _, q⟩ | ⟨_, _, _, _, q, _⟩
  · rw [q] at hp; cases hp
  · rw [q] at hp; cases hp
  · exact q p hp
theorem ends_in {n s t : Int} {es : List Arc} {f : List Int} {ways rounds : List (Int × List Int)} {e : Int} (hs : SplitOk n s t es f ways rounds e) (hf : FlOk n s t es f) (hv : 0 ≤ gone es f s) {i : Nat} (_hi : i ≤ rounds.length) (j : Nat) (hj : j < es.length) : 0 ≤ usedOf j (rounds.take i) ∧ usedOf j (rounds.take i) ≤ 10000 := by
  have hE := flowErr_of hf hf.net.err
  have hrr := split_rr hs
  rcases hs with ⟨q, _⟩ | ⟨_, q, _⟩ | ⟨_, _, _, h1, h2, h3, _, _⟩
  · exact absurd hE q
  · omega
  · have e1 := h3 j hj
    have e2 : ∀ l, (∀ p ∈ l, p ∈ rounds) → 0 ≤ usedOf j l := fun l hl => usedOf_nonneg (es := es) j fun p hp => by obtain ⟨x, hx⟩ := hrr p (hl p hp); exact ⟨_, _, hx⟩
    have e3 := usedOf_nonneg (es := es) j (l := ways) (fun p hp => ⟨_, _, h1 p hp⟩)
    have e4 := hf.f10 j hj
    have e5 := e2 (rounds.take i) fun p hp => List.mem_of_mem_take hp
    have e6 := e2 (rounds.drop i) fun p hp => List.mem_of_mem_drop hp
    have e7 := usedOf_app j (rounds.take i) (rounds.drop i)
    rw [List.take_append_drop] at e7
    omega
theorem top_piece {n s t : Int} {es : List Arc} {f : List Int} {ways rounds : List (Int × List Int)} {e : Int} (hs : SplitOk n s t es f ways rounds e) (hf : FlOk n s t es f) (hv : 0 ≤ gone es f s) {i : Nat} (hi : i < rounds.length) : (rounds.getD i (0, [])).1 ≤ 10000 := by
  obtain ⟨x, hP⟩ := split_rr hs _ (getD_mem (d := ((0, []) : Int × List Int)) hi)
  obtain ⟨k, hk⟩ := List.exists_mem_of_ne_nil _ hP.ne
  have hkr := hP.kr k hk
  have h1 := ends_in hs hf hv (i := rounds.length) (Nat.le_refl _) k.toNat (by omega)
  rw [List.take_of_length_le (Nat.le_refl _)] at h1
  have h2 := usedOf_mem (es := es) (k := k.toNat) (l := rounds) (fun p hp => by obtain ⟨y, hy⟩ := split_rr hs p hp; exact ⟨_, _, hy⟩) _ (getD_mem (d := ((0, []) : Int × List Int)) hi) (by rw [Int.toNat_of_nonneg hkr.1]; exact hk)
  omega
end Go.Ab
