/- A call that is lent nothing to write leaves the world as it was, but for draws and new blocks. -/
import Derived.Test.YtakfbagokponeaaAbC
import Derived.Sort.Grow
import Derived.Deep.Draws
namespace Go.Ab
open Go Go.Sort
def stillM (W : World) : Mem := ⟨fun _ => none, [], W, fun b => b < W.heap.size⟩
theorem stillM_live (W : World) (b : Nat) : ¬ (stillM W).live b := by
  rintro ⟨x, o, p, h, _⟩
  obtain ⟨y, r⟩ := x
  cases r <;> cases h
theorem stillM_ok (W : World) : MOk (stillM W) := by
  have hno : ∀ x o, lk (stillM W).H x = some o → False := fun x o h => by
    obtain ⟨y, r⟩ := x
    cases r <;> cases h
  refine ⟨?_, fun b hb => ⟨hb, stillM_live W b⟩, fun x y o o' b p q h => (hno _ _ h).elim, fun x o h => (hno _ _ h).elim, fun x o b p h => (hno _ _ h).elim⟩
  intro x id xss h
  cases h
theorem keep_world {W : World} {M' : Mem} (h : Keep (stillM W) M') : ∃ q os, M'.w = grow (W.drewN q) os := by
  refine ⟨M'.w.drawn - W.drawn, M'.w.heap.extract W.heap.size M'.w.heap.size, ?_⟩
  have h1 := h.os
  have h2 := h.tape
  have h3 := h.output
  have h4 := h.drawn
  have h5 := h.size
  have h6 := h.still
  have hw : (stillM W).w = W := rfl
  rw [hw] at h1 h2 h3 h4 h5 h6
  have hh : M'.w.heap = W.heap ++ M'.w.heap.extract W.heap.size M'.w.heap.size := by
    apply Array.ext
    · simp; omega
    · intro i hi1 hi2
      by_cases hlt : i < W.heap.size
      · have := (h6 i hlt (stillM_live W i)).1
        rw [Array.getElem?_eq_getElem hi1, Array.getElem?_eq_getElem hlt] at this
        rw [Array.getElem_append_left hlt]
        exact Option.some.inj this
      · rw [Array.getElem_append_right (by omega)]
        simp only [Array.getElem_extract]
        congr 1
        omega
  unfold grow World.drewN
  generalize M'.w = w' at *
  obtain ⟨hp, tp, dr, o, out⟩ := w'
  simp only at *
  subst h1 h2 h3
  congr 1
  omega
theorem ACall.exact {P : Program} {f : FuncId} {args : List AV} {z : Int} (h : ACall P f args [] (fun ov oh => ov = .one (.int .i64 z) ∧ oh = [])) (W : World) (us : List Value) (ha : ArgsR (stillM W) args us) :
    Calls P f us.toArray W (fun e w' => e = .returned (.int .i64 z) ∧ ∃ q os, w' = grow (W.drewN q) os) :=
  (h.run (stillM W) us rfl (stillM_ok W) ha).mono fun e w' hq => by
    obtain ⟨v, u, M', rfl, ⟨rfl, _⟩, hv, _, rfl, hE⟩ := hq
    have hu : u = .int .i64 z := hv
    exact ⟨by rw [hu], keep_world hE.toKeep⟩
end Go.Ab
