/- Of pairs of any who go together, by the least node that is not used: the plain laws. -/
import Derived.Test.YtglkldhjffnhhaaPlMate7
namespace Go.Ab
theorem nuF_none {n : Int} {es : List Arc} {u : Int} (h : ∀ v, v < n.toNat → has u v = true) : nuF n es u = 0 := by
  unfold nuF
  obtain ⟨M, h1, h2⟩ := nu_ex (prsOf es) (freeP n.toNat u)
  cases M with
  | nil => rw [← h2]; rfl
  | cons e M =>
    have q := freeP_iff.1 (h1.in_ e.1 (mem_vs.2 ⟨e, List.mem_cons_self, .inl rfl⟩))
    rw [h _ q.1] at q; cases q.2
theorem free_less {n k : Nat} {u : Int} (hk : k < n) (h0 : 0 ≤ u) (h1 : u < ((2 ^ n : Nat) : Int)) (hf : has u k = false) :
    0 ≤ ior u ((1 : Int) * 2 ^ k) ∧ ior u ((1 : Int) * 2 ^ k) < ((2 ^ n : Nat) : Int) ∧ cntP n (freeP n (ior u ((1 : Int) * 2 ^ k))) < cntP n (freeP n u) := by
  refine ⟨ior0 _ _, lt_has (ior0 _ _) fun v hv => ?_, ?_⟩
  · rw [has_ior, has_pow, has_lt h0 h1 hv, decide_eq_false (by omega)]; rfl
  · rw [free_del]
    have := cntP_del hk (freeP_iff.2 ⟨hk, hf⟩ : freeP n u k = true)
    omega
theorem pairs_start {n : Int} {es : List Arc} {u : Int} {low : Nat} : Upto es (freeP n.toNat u) low 0 (nuF n es (ior u ((1 : Int) * 2 ^ low))) := by
  unfold nuF; rw [free_del]; exact Upto.start es _ low
theorem pairs_arc {n : Int} {es : List Arc} {u : Int} {low i : Nat} {b : Int} (hU : Upto es (freeP n.toNat u) low i b) (hi : i < es.length) (hl : low < n.toNat) (hf : has u low = false) {q : Int} (h1 : 0 ≤ (es.getD i default).src) (h2 : 0 ≤ (es.getD i default).dst)
    (ho : q = (es.getD i default).src + (es.getD i default).dst - low) (ht : (es.getD i default).src = low ∨ (es.getD i default).dst = low) (hne : q ≠ low) (hqn : q.toNat < n.toNat) (hq : has u q.toNat = false) :
    Upto es (freeP n.toNat u) low (i + 1) (max b (1 + nuF n es (ior (ior u ((1 : Int) * 2 ^ low)) ((1 : Int) * 2 ^ q.toNat)))) := by
  obtain ⟨hin, hcp⟩ := touch_yes (p := freeP n.toNat u) h1 h2 ho ht hne (freeP_iff.2 ⟨hl, hf⟩) (freeP_iff.2 ⟨hqn, hq⟩)
  refine hU.yes hi hin ?_
  unfold nuF
  rw [free_cut, hcp]
theorem pairs_no {n : Int} {es : List Arc} {u : Int} {low i : Nat} {b : Int} (hU : Upto es (freeP n.toNat u) low i b) {q : Int} (h1 : 0 ≤ (es.getD i default).src) (h2 : 0 ≤ (es.getD i default).dst) (ho : q = (es.getD i default).src + (es.getD i default).dst - low)
    (hn : ¬ ((es.getD i default).src = low ∨ (es.getD i default).dst = low) ∨ q = low ∨ has u q.toNat = true) : Upto es (freeP n.toNat u) low (i + 1) b :=
  hU.no fun a c => touch_no h1 h2 ho (fun ⟨x, y, z⟩ => by
    rcases hn with w | w | w
    · exact w x
    · exact y w
    · rw [(freeP_iff.1 z).2] at w; cases w) a c
end Go.Ab
