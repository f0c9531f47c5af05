/- The abstract machine: a region that draws its order: where there is a choice of two, each is taken by itself. -/
import Derived.Test.YtnfnlgfdfmnghaaAbC
namespace Go.Ab
open Go
section
variable {P : Program} {T : Nat → Option TI} {K : Post} {s : St}
structure ATake (P : Program) (l : List Oper) (K : Post) (n : Nat) (listed : Array Bool) (k : Nat) (s : St) : Prop where
  run : ∀ (M0 M : Mem) (a : Act), Ext big M0 M → Rel M s a → wpOp P l.toArray (QN (Qc K M0)) k (wpAny P .any l.toArray (QN (Qc K M0)) n (listed.setIfInBounds k true)) a M.w
theorem aany_fork {l : List Oper} {n : Nat} {listed : Array Bool} (i j : Nat) (hrd : Region.ready .any l.toArray listed = [i, j]) (h1 : ATake P l K n listed i s) (h2 : ATake P l K n listed j s) : AAny P l K (n + 1) listed s := ⟨fun M0 M a he hr => by
  refine ⟨fun h0 => (by rw [hrd] at h0; cases h0), fun k hk => ?_⟩
  rw [hrd] at hk
  rcases List.mem_cons.1 hk with rfl | hk
  · exact h1.run M0 M a he hr
  · rcases List.mem_cons.1 hk with rfl | hk
    · exact h2.run M0 M a he hr
    · cases hk⟩
theorem atake_call {l : List Oper} {n k : Nat} {listed L : Array Bool} (ρ new : List (Nat × Nat)) (lent : Bool) (p : Pre) (args : List AV) {Φ : AV → Heap → Prop} {sm : St} (hL : listed.setIfInBounds k true = L) (hp : preCall ρ lent l k s = some p) (hm : missS l k s = some sm)
    (hR : (okR (ρ ++ new) && (okR ρ && (allSmall new ρ && allBig new))) = true) (hc : p.g = true → AllP p.cs) (hargs : p.args = args) (hA : p.g = true → ACall P p.f args p.hin Φ)
    (hk : p.g = true → ∀ v Hr, Φ v Hr → ∃ s', outS lent ρ new l k v Hr s = some s' ∧ AAny P l K n L s') (h0 : p.g = false → AAny P l K n L sm) : ATake P l K n listed k s := ⟨fun M0 M a he hr => by
  subst hL
  exact wpOp_of_ok (call_op ρ new lent p args hp hm hR hc hargs hA hr
    (fun hg v Hr hΦ => (hk hg v Hr hΦ).imp fun _s' h => ⟨h.1, fun M' a' he' hr' => h.2.run M0 M' a' (he.trans he') hr'⟩)
    (fun hg a' hr' => (h0 hg).run M0 M a' he hr'))⟩
theorem atake_step {l : List Oper} {n k : Nat} {listed L : Array Bool} (tab : Tab) (lent : Bool) (cs : List Prop) (s' : St) (hL : listed.setIfInBounds k true = L) (hT : ∀ t i, T t = some i → TF P t i) (h : stepAny P T tab lent l k s = some (cs, s')) (hc : AllP cs) (hk : AAny P l K n L s') : ATake P l K n listed k s := ⟨fun M0 M a he hr => by
  subst hL
  exact stepAny_sound hT h hc hr fun M' a' he' hr' => hk.run M0 M' a' (he.trans he') hr'⟩
end
end Go.Ab
