/- DoubleSays returns true: Check and Split return what the reference returns (Birkhoff). The conditions: none. -/
import Derived.Test.YtakfbagokponeaaRows
import Derived.WalkKit
import Derived.ProofKit
import Derived.OpenShut
import Derived.Test.YtakfbagokponeaaDoubleSays
namespace Go.Proofs.Ytakfbagokponeaa.doubleSays
open Go Go.Ab Go.ChangeShapes Go.WideShapes Go.ChangeAt Go.RowKit

theorem own : ownKnob Try.prog.godebug = none := by kernel_rfl
theorem laidOut : laidOutB Try.prog = true := by kernel_rfl

set_option maxRecDepth 100000 in
theorem contract (H : Type) (enc : TypeId × Value → H) (W : World) (base : Nat) (args : Array Value) (ds gs : List (DataW H)) (before : List MemPlace)
    (hval : ∀ (j : Nat) t v, Try.f4.params[j]? = some t → args[j]? = some v → Value.okWide Try.prog W .any base t v)
    (hW : DataW.Whole enc Try.prog Try.f4.params.toList Rows.doubleSaysSpec.vars false W args.toList ds gs before) :
    Calls Try.prog 4 args W fun e W' => ∃ v, e = .returned v ∧ Rows.doubleSaysSpec.post enc Try.prog Try.f4 false true false false W args v W' := by
  have hW' := hW
  obtain ⟨p, q, hA0, hV, rfl, hfz, hnd⟩ := hW
  have hA : DataW.TrodAll enc Try.prog W 0 (fun _ => true) true Try.f4.params.toList args.toList ds p := hA0
  have hAk := hA
  rw [Try.params4] at hA hval
  obtain ⟨rfl, rfl⟩ := trodVars_none hV
  obtain ⟨v0, vs0, d0, ds0, p0, q0, hargs0, rfl, rfl, h0, r_0⟩ := trodAll_cons hA
  obtain ⟨he, rfl, rfl⟩ := trodAll_nil r_0
  obtain rfl : args = #[v0] := by cases args; simp_all
  clear hargs0 he
  obtain ⟨A0, n0, c0, e0⟩ := okWide_slice Try.underlying32 (hval 0 32 v0 rfl rfl)
  subst e0
  obtain ⟨m0, t0⟩ := h0
  obtain ⟨a0, r0, _, f0⟩ := rd_rows rfl Try.underlying32 Try.underlying25 Try.underlying3 (by kernel_rfl) (by kernel_rfl) t0
  have hR : ArgsR (argM W) [.one (.rs (.rows a0))] [(.slice A0 n0 c0)] := by
    refine ⟨rfl, fun i v hi => ?_⟩
    match i, hi with
    | 0, hi => cases hi; exact ⟨_, rfl, r0⟩
    | i + 1, hi => simp at hi
  refine ((doubleSays_law a0).run (argM W) [(.slice A0 n0 c0)] rfl (argM_ok W) hR).mono fun e W' hq => ?_
  obtain ⟨v, u, M', rfl, ⟨rfl, _⟩, hvu, _, rfl, hext⟩ := hq
  obtain rfl : u = .bool true := hvu
  have hb := argM_below hext
  exact ⟨_, rfl, post_kept (pv := []) hW' (fun _ _ _ => trodAll_cons_mk (shut_bool Try.underlying4 _) trodAll_mk0) (fun sp hsp => args_stay laidOut hb (by kernel_rfl) hAk (fun x hx => hW'.lt x (List.mem_append_left _ hx)) (fun x hx => hsp x (List.mem_append_left _ hx))) (fun _ _ => rfl) rfl hb
    (ok_one (by kernel_rfl) rfl (okWide_bool_mk Try.underlying4 _))⟩

set_option maxRecDepth 100000 in
theorem lifted (os : Os) (started : os.Started) (H : Type) (enc : TypeId × Value → H) :
    ReturnsInHanded {} Try.checked os 4 .any (Rows.doubleSaysSpec.pre6 enc Try.prog Try.f4 Rows.doubleSaysRow.domain false) (Rows.doubleSaysSpec.post enc Try.prog Try.f4 false true false false) := by
  refine returnsInHanded_of_change (C := Try.checked) own started (by kernel_rfl) Try.func4
    (ChangeSpec.witness6 (enc := enc) (C := Try.checked) false ⟨#[], #[.slice none 0 0], []⟩ 8 (by kernel_rfl) (by kernel_rfl) (by kernel_rfl) (by kernel_rfl)) ?_
  intro W base args ds gs before hval hW _ _
  exact contract H enc W base args ds gs before hval hW

theorem proved : Rows.DoubleSaysSaid :=
  OpenClaim.holds_of_wide 4 Try.f4 rfl rfl rfl rfl rfl rfl rfl ⟨rfl, rfl, rfl, rfl, rfl⟩ rfl rfl rfl rfl rfl (by kernel_rfl) Try.func4 (by kernel_rfl)
    (of_decide_eq_true (by kernel_rfl)) (by unfold Func.isWrapper; first | (rw [if_pos (by decide +kernel)]; kernel_rfl) | (rw [if_neg (by decide +kernel)]; exact ⟨rfl, rfl⟩))
    (fun os started H enc _ => lifted os started H enc)

end Go.Proofs.Ytakfbagokponeaa.doubleSays
