/- Of math/bits: Len, as a contract of the abstract machine, out of the library's own one. -/
import Derived.Test.YtglkldhjffnhhaaAbC
import Derived.Shelf.Small.Bits
namespace Go.Ab
open Go.Proofs Go.Shelf
theorem len_call {P : Program} {ρ : Ren} (L : Lays.n125 P ρ) (hfn : ∃ fn, P.funcs[ρ.f 125]? = some fn ∧ (fn.name == "runtime.NumGoroutine") = false ∧ fn.body.isNone = false)
    (x : Int) (h0 : 0 ≤ x) (h1 : x ≤ 18446744073709551615) : ACall P (ρ.f 125) [.one (.int .u64 x)] [] (fun ov oh => ov = .one (.int .i64 ((Lib.bitLen x.toNat : Nat) : Int)) ∧ oh = []) := by
  refine ⟨hfn, fun M us hH hM ha => ?_⟩
  obtain ⟨hl, hv⟩ := ha
  obtain ⟨u, hu, hr⟩ := hv 0 _ rfl
  obtain rfl : us = [u] := by
    match us, hl, hu with
    | [x], _, hu => cases hu; rfl
  obtain rfl : u = .int .u64 x := hr
  refine (Any.bits_Len L x M.w h0 h1).mono fun e w' hq => ?_
  obtain ⟨rfl, rfl⟩ := hq
  exact ⟨_, _, M, rfl, ⟨rfl, hH⟩, rfl, hM, rfl, Ext.refl _ _⟩
end Go.Ab
