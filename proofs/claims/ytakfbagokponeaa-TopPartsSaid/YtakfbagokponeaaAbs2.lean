/- The abstract machine: a row is put into a table, in a region that draws its order. -/
import Derived.Test.YtakfbagokponeaaAbC
namespace Go.Ab
open Go
theorem aany_absorb {P : Program} {T : Nat → Option TI} {K : Post} {s : St} {l : List Oper} {n k : Nat} {listed L : Array Bool} {o : Oper} {r : List Oper} {t : TypeId} {ti : TI} {x y : Operand} {A R i m : Nat} {xss : List (List Int)} {ys : List Int} (hT : ∀ t i, T t = some i → TF P t i)
    (hrd : Region.ready .any l.toArray listed = [k]) (hL : listed.setIfInBounds k true = L) (hl : l.drop k = o :: r) (ho : o.op = .store t x y) (hg : o.guard = none) (hd : o.dst = none) (hti : T t = some ti) (hsz1 : ti.sz = 1) (hx : s.raw x = some (.one (.ptr A i 0))) (hy : s.raw y = some (.one (.rw R 0 m))) (hA : look A s.hp = some (.mat A xss)) (hR : look R s.hp = some (.flat (.ints .i64 ys)))
    (hbA : big A = true) (hbR : big R = true) (hi : i < xss.length) (hn : m = ys.length)
    (hk : AAny P l K n L ⟨s.n, mapV (liftA (dropV A R)) s.tm, absorbH A R i xss ys s.hp⟩) : AAny P l K (n + 1) listed s := ⟨fun M0 M a he hr => by
  subst hL
  obtain ⟨M', hrun, hext, hrel⟩ := absorb_sound (P := P) hT hr ho hti hsz1 hx hy hA hR hi hn hbA hbR
  refine ⟨fun h0 => (by rw [hrd] at h0; cases h0), fun j hj => ?_⟩
  rw [hrd, List.mem_singleton] at hj
  subst hj
  refine wpOp_of_ok ?_
  unfold OpOk
  rw [hl]
  simp only
  rw [if_pos (by simp [Region.wanted, hg])]
  refine .inl ?_
  unfold Oper.wp
  rw [hrun]
  show wpAny P .any l.toArray (QN (Qc K M0)) n _ (a.put o.dst undef) M'.w
  rw [hd]
  exact hk.run M0 M' _ (he.trans hext) hrel⟩
end Go.Ab
