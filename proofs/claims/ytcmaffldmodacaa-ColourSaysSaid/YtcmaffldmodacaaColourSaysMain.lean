/- ColourSays returns true: how many colourings there are is what the reference says (Whitney), and the arcs of two sides are coloured with as few colours as can be (Koenig). The conditions: none. -/
import Derived.Test.YtcmaffldmodacaaRows
import Derived.WalkKit
import Derived.ProofKit
import Derived.OpenShut
import Derived.Test.YtcmaffldmodacaaColourSays
namespace Go.Proofs.Ytcmaffldmodacaa.colourSays
open Go Go.Ab Go.ChangeShapes Go.WideShapes Go.ChangeAt Go.RowKit

theorem own : ownKnob Try.prog.godebug = none := by kernel_rfl
theorem laidOut : laidOutB Try.prog = true := by kernel_rfl

set_option maxRecDepth 100000 in
theorem contract (H : Type) (enc : TypeId × Value → H) (W : World) (base : Nat) (args : Array Value) (ds gs : List (DataW H)) (before : List MemPlace)
    (hval : ∀ (j : Nat) t v, Try.f4.params[j]? = some t → args[j]? = some v → Value.okWide Try.prog W .any base t v)
    (hW : DataW.Whole enc Try.prog Try.f4.params.toList Rows.colourSaysSpec.vars false W args.toList ds gs before) :
    Calls Try.prog 4 args W fun e W' => ∃ v, e = .returned v ∧ Rows.colourSaysSpec.post enc Try.prog Try.f4 false true false false W args v W' := by
  have hW' := hW
  obtain ⟨p, q, hA0, hV, rfl, hfz, hnd⟩ := hW
  have hA : DataW.TrodAll enc Try.prog W 0 (fun _ => true) true Try.f4.params.toList args.toList ds p := hA0
  have hAk := hA
  rw [Try.params4] at hA hval
  obtain ⟨rfl, rfl⟩ := trodVars_none hV
  obtain ⟨v0, vs0, d0, ds0, p0, q0, hargs0, rfl, rfl, h0, r_0⟩ := trodAll_cons hA
  obtain ⟨v1, vs1, d1, ds1, p1, q1, hargs1, rfl, rfl, h1, r_1⟩ := trodAll_cons r_0
  obtain ⟨he, rfl, rfl⟩ := trodAll_nil r_1
  obtain rfl : args = #[v0, v1] := by cases args; simp_all
  clear hargs0 hargs1 he
  obtain ⟨cs0, e0, z0⟩ := okWide_struct Try.underlying33 (hval 0 33 v0 rfl rfl)
  subst e0
  obtain ⟨m0, t0⟩ := h0
  obtain ⟨x0_0, x0_1, e0⟩ := arr_of.1 (z0.trans (show Try.prog.cellsOf 33 = 2 from by kernel_rfl))
  subst e0
  have t0 : DataW.trod enc Try.prog W 0 (fun _ => true) true m0 33 [x0_0, x0_1] = _ := t0
  obtain ⟨ys0, g0, _, xe0, _, q0, b0⟩ := DataW.trod_struct Try.underlying33 t0
  obtain ⟨y0_0, s0_0⟩ := trod_field (L' := [x0_0]) (b0 0 _ rfl) (by rw [q0]; decide) (by kernel_rfl)
  obtain ⟨a0_0, rfl, f0_0⟩ := rd_int Try.underlying3 s0_0
  obtain ⟨y0_1, s0_1⟩ := trod_field (L' := [x0_1]) (b0 1 _ rfl) (by rw [q0]; decide) (by kernel_rfl)
  obtain ⟨a0_1, r0_1, _, f0_1⟩ := rd_arcs Try.underlying22 Try.underlying61 (by kernel_rfl) (by kernel_rfl) Try.underlying3 Try.underlying3 Try.underlying3 s0_1
  have r0 : AVR (argM W) (.agg [.int .i64 a0_0, .ro (.arcs a0_1)]) (.agg #[.int .i64 a0_0, x0_1]) := by
    refine ⟨_, rfl, rfl, fun i v hi => ?_⟩
    match i, hi with
    | 0, hi => cases hi; exact ⟨_, rfl, rfl⟩
    | 1, hi => cases hi; exact ⟨_, rfl, r0_1⟩
    | i + 2, hi => simp at hi
  obtain ⟨a1, rfl, rfl, rfl, w1⟩ := open_int Try.underlying3 (hval 1 3 v1 rfl rfl) h1
  have f1 := lit_inR w1
  have r1 : AVR (argM W) (.one (.int .i64 a1)) (.int .i64 a1) := rfl
  have hR : ArgsR (argM W) [.agg [.int .i64 a0_0, .ro (.arcs a0_1)], .one (.int .i64 a1)] [(.agg #[.int .i64 a0_0, x0_1]), (.int .i64 a1)] := by
    refine ⟨rfl, fun i v hi => ?_⟩
    match i, hi with
    | 0, hi => cases hi; exact ⟨_, rfl, r0⟩
    | 1, hi => cases hi; exact ⟨_, rfl, r1⟩
    | i + 2, hi => simp at hi
  refine ((colourSays_law a0_0 a0_1 a1).run (argM W) [(.agg #[.int .i64 a0_0, x0_1]), (.int .i64 a1)] rfl (argM_ok W) hR).mono fun e W' hq => ?_
  obtain ⟨v, u, M', rfl, ⟨rfl, _⟩, hvu, _, rfl, hext⟩ := hq
  obtain rfl : u = .bool true := hvu
  have hb := argM_below hext
  exact ⟨_, rfl, post_kept (pv := []) hW' (fun _ _ _ => trodAll_cons_mk (shut_bool Try.underlying4 _) trodAll_mk0) (fun sp hsp => args_stay laidOut hb (by kernel_rfl) hAk (fun x hx => hW'.lt x (List.mem_append_left _ hx)) (fun x hx => hsp x (List.mem_append_left _ hx))) (fun _ _ => rfl) rfl hb
    (ok_one (by kernel_rfl) rfl (okWide_bool_mk Try.underlying4 _))⟩

set_option maxRecDepth 100000 in
theorem lifted (os : Os) (started : os.Started) (H : Type) (enc : TypeId × Value → H) :
    ReturnsInHanded {} Try.checked os 4 .any (Rows.colourSaysSpec.pre6 enc Try.prog Try.f4 Rows.colourSaysRow.domain false) (Rows.colourSaysSpec.post enc Try.prog Try.f4 false true false false) := by
  refine returnsInHanded_of_change (C := Try.checked) own started (by kernel_rfl) Try.func4
    (ChangeSpec.witness6 (enc := enc) (C := Try.checked) false ⟨#[], #[.agg #[.int .i64 0, .slice none 0 0], .int .i64 0], []⟩ 8 (by kernel_rfl) (by kernel_rfl) (by kernel_rfl) (by kernel_rfl)) ?_
  intro W base args ds gs before hval hW _ _
  exact contract H enc W base args ds gs before hval hW

theorem proved : Rows.ColourSaysSaid :=
  OpenClaim.holds_of_wide 4 Try.f4 rfl rfl rfl rfl rfl rfl rfl ⟨rfl, rfl, rfl, rfl, rfl⟩ rfl rfl rfl rfl rfl (by kernel_rfl) Try.func4 (by kernel_rfl)
    (of_decide_eq_true (by kernel_rfl)) (by unfold Func.isWrapper; first | (rw [if_pos (by decide +kernel)]; kernel_rfl) | (rw [if_neg (by decide +kernel)]; exact ⟨rfl, rfl⟩))
    (fun os started H enc _ => lifted os started H enc)

end Go.Proofs.Ytcmaffldmodacaa.colourSays
