/- Of what a flow costs: what the walks ask for: the plain laws. -/
import Derived.Test.YtglkldhjffnhhaaPlCheap4
namespace Go.Ab
theorem Far.bd {n s : Int} {es : List Arc} {f : List Int} {g : List Bool} (h12 : n ≤ 12) (hG : GOk n es (-10000)) (hs : 0 ≤ s ∧ s < n) (hF : Far n es (fun x => x = s) f g) (v : Nat) : -240000 ≤ f.getD v 0 ∧ f.getD v 0 ≤ 240000 := by
  by_cases hv : v < n.toNat
  · by_cases hk : g.getD v false = true
    · obtain ⟨x, Y, _, hl, hW⟩ := hF.short h12 hG.inR (fun y hy => by have : y = s := hy; omega) (v := (v : Int)) (by omega) (by omega) (by rw [Int.toNat_natCast]; exact hk)
      rw [Int.toNat_natCast] at hW
      have := Wl.wt (fun a ha => by obtain ⟨_, _, _, _, q5, q6⟩ := hG.arc a ha; exact ⟨q5, q6⟩) hW
      omega
    · have := hF.rx.zero v (by omega) (by omega) (by rw [Int.toNat_natCast]; simpa using hk)
      rw [Int.toNat_natCast] at this
      omega
  · have hl := hF.rx.fl
    have : f.getD v 0 = 0 := by rw [List.getD_eq_getElem?_getD, List.getElem?_eq_none (by omega)]; rfl
    omega
/-- What 'From' answers where no round way costs less than nothing. -/
theorem from_pot {n s t : Int} {es : List Arc} {cost f far : List Int} {kn : List Bool} {e : Int} (hn : NOk n s t es) (hc : CostOk es cost) (hP : Pot (RS es cost f)) (h : FromOk n (leftA es cost f es.length) s far kn e) : Far n (leftA es cost f es.length) (fun x => x = s) far kn := by
  have hG := left_in (cost := cost) (f := f) hn hc
  have hg : graphErr n (leftA es cost f es.length) (-10000) = 0 := hG.err
  rcases h with ⟨q, _⟩ | ⟨_, q, _⟩ | ⟨_, _, _, _, _, q⟩ | ⟨_, _, _, q⟩
  · exact absurd hg q
  · exact absurd ⟨hn.s0, hn.s1⟩ q
  · exact absurd (ncyc_of (left_arcs es cost f) (fun u v c hr => (hr.in_ hn hc).2.1) hP.none) (q.cyc hG.inR (fun x hx => by have : x = s := hx; have := hn.s0; have := hn.s1; omega))
  · exact q
theorem Far.vis {n s t : Int} {es : List Arc} {cost f far : List Int} {kn : List Bool} {deep by_ : List Int} (hn : NOk n s t es) (hc : CostOk es cost) (hF : Far n (leftA es cost f es.length) (fun x => x = s) far kn) (hB : TB n s (leftA es cost f es.length) far kn deep by_ []) (hC : TCl n (leftA es cost f es.length) far kn deep []) (hk : kn.getD t.toNat false = true) : 0 ≤ deep.getD t.toNat 0 := by
  obtain ⟨Y, hY⟩ := hF.rx.snd t hn.t0 hn.t1 hk
  exact hB.all hC (left_in (cost := cost) (f := f) hn hc).inR hF hn.s0 hn.s1 hY (Int.le_refl _)
theorem toP_room {es : List Arc} {f : List Int} {k : Int} : room1 es f (toP k) = if k % 2 = 0 then (es.getD (k / 2).toNat default).cap - f.getD (k / 2).toNat 0 else f.getD (k / 2).toNat 0 := by
  unfold room1 toP
  by_cases h : k % 2 = 0
  · rw [if_pos h, if_neg (by simp [h])]
  · rw [if_neg h, if_pos (by simp [h])]
theorem best_bool {e c : Int} {P : Prop} (hc : c = 0) (h : (e = 0 ∧ ¬ P) ∨ (e ≠ 0 ∧ P)) : decide (e = 0) = (decide (c = 0) && !@decide P (Classical.propDecidable P)) := by
  rw [decide_eq_true hc, Bool.true_and]
  rcases h with ⟨h1, h2⟩ | ⟨h1, h2⟩
  · rw [decide_eq_true h1, @decide_eq_false P (Classical.propDecidable P) h2]; rfl
  · rw [decide_eq_false h1, @decide_eq_true P (Classical.propDecidable P) h2]; rfl
end Go.Ab
