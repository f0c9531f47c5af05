/- TopSame returns true: all algorithms find the same maximum value, certificates are accepted, and a store with this network reports the same value (Ford, Fulkerson, Dinic, Picard, Queyranne). The conditions: none. -/
import Derived.Test.YtcmaffldmodacaaRows
import Derived.WalkKit
import Derived.ProofKit
import Derived.OpenShut
import Derived.Test.YtcmaffldmodacaaTopSame
namespace Go.Proofs.Ytcmaffldmodacaa.topSame
open Go Go.Ab Go.ChangeShapes Go.WideShapes Go.ChangeAt Go.RowKit

theorem own : ownKnob Try.prog.godebug = none := by kernel_rfl
theorem laidOut : laidOutB Try.prog = true := by kernel_rfl

set_option maxRecDepth 100000 in
theorem contract (H : Type) (enc : TypeId × Value → H) (W : World) (base : Nat) (args : Array Value) (ds gs : List (DataW H)) (before : List MemPlace)
    (hval : ∀ (j : Nat) t v, Try.f5.params[j]? = some t → args[j]? = some v → Value.okWide Try.prog W .any base t v)
    (hW : DataW.Whole enc Try.prog Try.f5.params.toList Rows.topSameSpec.vars false W args.toList ds gs before) :
    Calls Try.prog 5 args W fun e W' => ∃ v, e = .returned v ∧ Rows.topSameSpec.post enc Try.prog Try.f5 false true false false W args v W' := by
  have hW' := hW
  obtain ⟨p, q, hA0, hV, rfl, hfz, hnd⟩ := hW
  have hA : DataW.TrodAll enc Try.prog W 0 (fun _ => true) true Try.f5.params.toList args.toList ds p := hA0
  have hAk := hA
  rw [Try.params5] at hA hval
  obtain ⟨rfl, rfl⟩ := trodVars_none hV
  obtain ⟨v0, vs0, d0, ds0, p0, q0, hargs0, rfl, rfl, h0, r_0⟩ := trodAll_cons hA
  obtain ⟨he, rfl, rfl⟩ := trodAll_nil r_0
  obtain rfl : args = #[v0] := by cases args; simp_all
  clear hargs0 he
  obtain ⟨cs0, e0, z0⟩ := okWide_struct Try.underlying24 (hval 0 24 v0 rfl rfl)
  subst e0
  obtain ⟨m0, t0⟩ := h0
  obtain ⟨x0_0, x0_1, x0_2, x0_3, e0⟩ := arr_of.2.1 (z0.trans (show Try.prog.cellsOf 24 = 4 from by kernel_rfl))
  subst e0
  have t0 : DataW.trod enc Try.prog W 0 (fun _ => true) true m0 24 [x0_0, x0_1, x0_2, x0_3] = _ := t0
  obtain ⟨ys0, g0, _, xe0, _, q0, b0⟩ := DataW.trod_struct Try.underlying24 t0
  obtain ⟨y0_0, s0_0⟩ := trod_field (L' := [x0_0]) (b0 0 _ rfl) (by rw [q0]; decide) (by kernel_rfl)
  obtain ⟨a0_0, rfl, f0_0⟩ := rd_int Try.underlying3 s0_0
  obtain ⟨y0_1, s0_1⟩ := trod_field (L' := [x0_1]) (b0 1 _ rfl) (by rw [q0]; decide) (by kernel_rfl)
  obtain ⟨a0_1, rfl, f0_1⟩ := rd_int Try.underlying3 s0_1
  obtain ⟨y0_2, s0_2⟩ := trod_field (L' := [x0_2]) (b0 2 _ rfl) (by rw [q0]; decide) (by kernel_rfl)
  obtain ⟨a0_2, rfl, f0_2⟩ := rd_int Try.underlying3 s0_2
  obtain ⟨y0_3, s0_3⟩ := trod_field (L' := [x0_3]) (b0 3 _ rfl) (by rw [q0]; decide) (by kernel_rfl)
  obtain ⟨a0_3, r0_3, _, f0_3⟩ := rd_arcs Try.underlying22 Try.underlying61 (by kernel_rfl) (by kernel_rfl) Try.underlying3 Try.underlying3 Try.underlying3 s0_3
  have r0 : AVR (argM W) (.agg [.int .i64 a0_0, .int .i64 a0_1, .int .i64 a0_2, .ro (.arcs a0_3)]) (.agg #[.int .i64 a0_0, .int .i64 a0_1, .int .i64 a0_2, x0_3]) := by
    refine ⟨_, rfl, rfl, fun i v hi => ?_⟩
    match i, hi with
    | 0, hi => cases hi; exact ⟨_, rfl, rfl⟩
    | 1, hi => cases hi; exact ⟨_, rfl, rfl⟩
    | 2, hi => cases hi; exact ⟨_, rfl, rfl⟩
    | 3, hi => cases hi; exact ⟨_, rfl, r0_3⟩
    | i + 4, hi => simp at hi
  have hR : ArgsR (argM W) [.agg [.int .i64 a0_0, .int .i64 a0_1, .int .i64 a0_2, .ro (.arcs a0_3)]] [(.agg #[.int .i64 a0_0, .int .i64 a0_1, .int .i64 a0_2, x0_3])] := by
    refine ⟨rfl, fun i v hi => ?_⟩
    match i, hi with
    | 0, hi => cases hi; exact ⟨_, rfl, r0⟩
    | i + 1, hi => simp at hi
  refine ((topSame_law a0_0 a0_1 a0_2 a0_3).run (argM W) [(.agg #[.int .i64 a0_0, .int .i64 a0_1, .int .i64 a0_2, x0_3])] rfl (argM_ok W) hR).mono fun e W' hq => ?_
  obtain ⟨v, u, M', rfl, ⟨rfl, _⟩, hvu, _, rfl, hext⟩ := hq
  obtain rfl : u = .bool true := hvu
  have hb := argM_below hext
  exact ⟨_, rfl, post_kept (pv := []) hW' (fun _ _ _ => trodAll_cons_mk (shut_bool Try.underlying4 _) trodAll_mk0) (fun sp hsp => args_stay laidOut hb (by kernel_rfl) hAk (fun x hx => hW'.lt x (List.mem_append_left _ hx)) (fun x hx => hsp x (List.mem_append_left _ hx))) (fun _ _ => rfl) rfl hb
    (ok_one (by kernel_rfl) rfl (okWide_bool_mk Try.underlying4 _))⟩

set_option maxRecDepth 100000 in
theorem lifted (os : Os) (started : os.Started) (H : Type) (enc : TypeId × Value → H) :
    ReturnsInHanded {} Try.checked os 5 .any (Rows.topSameSpec.pre6 enc Try.prog Try.f5 Rows.topSameRow.domain false) (Rows.topSameSpec.post enc Try.prog Try.f5 false true false false) := by
  refine returnsInHanded_of_change (C := Try.checked) own started (by kernel_rfl) Try.func5
    (ChangeSpec.witness6 (enc := enc) (C := Try.checked) false ⟨#[], #[.agg #[.int .i64 0, .int .i64 0, .int .i64 0, .slice none 0 0]], []⟩ 8 (by kernel_rfl) (by kernel_rfl) (by kernel_rfl) (by kernel_rfl)) ?_
  intro W base args ds gs before hval hW _ _
  exact contract H enc W base args ds gs before hval hW

theorem proved : Rows.TopSameSaid :=
  OpenClaim.holds_of_wide 5 Try.f5 rfl rfl rfl rfl rfl rfl rfl ⟨rfl, rfl, rfl, rfl, rfl⟩ rfl rfl rfl rfl rfl (by kernel_rfl) Try.func5 (by kernel_rfl)
    (of_decide_eq_true (by kernel_rfl)) (by unfold Func.isWrapper; first | (rw [if_pos (by decide +kernel)]; kernel_rfl) | (rw [if_neg (by decide +kernel)]; exact ⟨rfl, rfl⟩))
    (fun os started H enc _ => lifted os started H enc)

end Go.Proofs.Ytcmaffldmodacaa.topSame
