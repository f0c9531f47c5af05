/- RepairSays returns true: all functions of package repair return what the specification requires. The conditions: none. -/
import Derived.Test.YtnfnlgfdfmnghaaSize2
import Derived.Test.YtnfnlgfdfmnghaaRows
import Derived.WalkKit
import Derived.ProofKit
import Derived.OpenShut
import Derived.Test.YtnfnlgfdfmnghaaRepairSays
namespace Go.Proofs.Ytnfnlgfdfmnghaa.repairSays
open Go Go.Ab Go.ChangeShapes Go.WideShapes Go.ChangeAt Go.RowKit

theorem own : ownKnob Try.prog.godebug = none := by kernel_rfl
theorem laidOut : laidOutB Try.prog = true := by kernel_rfl

set_option maxRecDepth 100000 in
theorem contract (H : Type) (enc : TypeId × Value → H) (W : World) (base : Nat) (args : Array Value) (ds gs : List (DataW H)) (before : List MemPlace)
    (hval : ∀ (j : Nat) t v, Try.f3.params[j]? = some t → args[j]? = some v → Value.okWide Try.prog W .any base t v)
    (hW : DataW.Whole enc Try.prog Try.f3.params.toList Rows.repairSaysSpec.vars false W args.toList ds gs before)
    (hsz : (DataW.weightsEach Try.prog (Try.f3.params.toList ++ Rows.repairSaysSpec.plain.varTypes Try.prog) (ds ++ gs)).all (· ≤ reachBytes) = true) :
    Calls Try.prog 3 args W fun e W' => ∃ v, e = .returned v ∧ Rows.repairSaysSpec.post enc Try.prog Try.f3 false true false false W args v W' := by
  have hW' := hW
  obtain ⟨p, q, hA0, hV, rfl, hfz, hnd⟩ := hW
  have hA : DataW.TrodAll enc Try.prog W 0 (fun _ => true) true Try.f3.params.toList args.toList ds p := hA0
  have hAk := hA
  rw [Try.params3] at hA hval hsz
  obtain ⟨rfl, rfl⟩ := trodVars_none hV
  obtain ⟨v0, vs0, d0, ds0, p0, q0, hargs0, rfl, rfl, h0, r_0⟩ := trodAll_cons hA
  obtain ⟨v1, vs1, d1, ds1, p1, q1, hargs1, rfl, rfl, h1, r_1⟩ := trodAll_cons r_0
  obtain ⟨v2, vs2, d2, ds2, p2, q2, hargs2, rfl, rfl, h2, r_2⟩ := trodAll_cons r_1
  obtain ⟨v3, vs3, d3, ds3, p3, q3, hargs3, rfl, rfl, h3, r_3⟩ := trodAll_cons r_2
  obtain ⟨v4, vs4, d4, ds4, p4, q4, hargs4, rfl, rfl, h4, r_4⟩ := trodAll_cons r_3
  obtain ⟨v5, vs5, d5, ds5, p5, q5, hargs5, rfl, rfl, h5, r_5⟩ := trodAll_cons r_4
  obtain ⟨v6, vs6, d6, ds6, p6, q6, hargs6, rfl, rfl, h6, r_6⟩ := trodAll_cons r_5
  obtain ⟨he, rfl, rfl⟩ := trodAll_nil r_6
  obtain rfl : args = #[v0, v1, v2, v3, v4, v5, v6] := by cases args; simp_all
  clear hargs0 hargs1 hargs2 hargs3 hargs4 hargs5 hargs6 he
  obtain ⟨cs0, e0, z0⟩ := okWide_struct Try.underlying24 (hval 0 24 v0 rfl rfl)
  subst e0
  obtain ⟨m0, t0⟩ := h0
  obtain ⟨x0_0, x0_1, x0_2, x0_3, e0⟩ := arr_of.2.1 (z0.trans (show Try.prog.cellsOf 24 = 4 from by kernel_rfl))
  subst e0
  have t0 : DataW.trod enc Try.prog W 0 (fun _ => true) true m0 24 [x0_0, x0_1, x0_2, x0_3] = _ := t0
  obtain ⟨ys0, g0, _, xe0, _, q0, b0⟩ := DataW.trod_struct Try.underlying24 t0
  obtain ⟨y0_0, s0_0⟩ := trod_field (L' := [x0_0]) (b0 0 _ rfl) (by rw [q0]; decide) (by kernel_rfl)
  obtain ⟨a0_0, rfl, f0_0⟩ := rd_int Try.underlying3 s0_0
  obtain ⟨y0_1, s0_1⟩ := trod_field (L' := [x0_1]) (b0 1 _ rfl) (by rw [q0]; decide) (by kernel_rfl)
  obtain ⟨a0_1, rfl, f0_1⟩ := rd_int Try.underlying3 s0_1
  obtain ⟨y0_2, s0_2⟩ := trod_field (L' := [x0_2]) (b0 2 _ rfl) (by rw [q0]; decide) (by kernel_rfl)
  obtain ⟨a0_2, rfl, f0_2⟩ := rd_int Try.underlying3 s0_2
  obtain ⟨y0_3, s0_3⟩ := trod_field (L' := [x0_3]) (b0 3 _ rfl) (by rw [q0]; decide) (by kernel_rfl)
  obtain ⟨a0_3, r0_3, _, f0_3⟩ := rd_arcs Try.underlying22 Try.underlying27 (by kernel_rfl) (by kernel_rfl) Try.underlying3 Try.underlying3 Try.underlying3 s0_3
  have r0 : AVR (argM W) (.agg [.int .i64 a0_0, .int .i64 a0_1, .int .i64 a0_2, .ro (.arcs a0_3)]) (.agg #[.int .i64 a0_0, .int .i64 a0_1, .int .i64 a0_2, x0_3]) := by
    refine ⟨_, rfl, rfl, fun i v hi => ?_⟩
    match i, hi with
    | 0, hi => cases hi; exact ⟨_, rfl, rfl⟩
    | 1, hi => cases hi; exact ⟨_, rfl, rfl⟩
    | 2, hi => cases hi; exact ⟨_, rfl, rfl⟩
    | 3, hi => cases hi; exact ⟨_, rfl, r0_3⟩
    | i + 4, hi => simp at hi
  obtain ⟨A1, n1, c1, e1⟩ := okWide_slice Try.underlying25 (hval 1 25 v1 rfl rfl)
  subst e1
  obtain ⟨m1, t1⟩ := h1
  obtain ⟨a1, r1, _, f1⟩ := rd_ints Try.underlying25 Try.underlying3 (by kernel_rfl) t1
  obtain ⟨a2, rfl, rfl, rfl, w2⟩ := open_int Try.underlying3 (hval 2 3 v2 rfl rfl) h2
  have f2 := lit_inR w2
  have r2 : AVR (argM W) (.one (.int .i64 a2)) (.int .i64 a2) := rfl
  obtain ⟨a3, rfl, rfl, rfl, w3⟩ := open_int Try.underlying3 (hval 3 3 v3 rfl rfl) h3
  have f3 := lit_inR w3
  have r3 : AVR (argM W) (.one (.int .i64 a3)) (.int .i64 a3) := rfl
  obtain ⟨cs4, e4, z4⟩ := okWide_struct Try.underlying27 (hval 4 27 v4 rfl rfl)
  subst e4
  obtain ⟨m4, t4⟩ := h4
  obtain ⟨x4_0, x4_1, x4_2, e4⟩ : ∃ x4_0 x4_1 x4_2, cs4 = #[x4_0, x4_1, x4_2] := by have hz := z4.trans (show Try.prog.cellsOf 27 = 3 from by kernel_rfl); obtain ⟨l⟩ := cs4; match l, hz with | [x4_0, x4_1, x4_2], _ => exact ⟨x4_0, x4_1, x4_2, rfl⟩
  subst e4
  have t4 : DataW.trod enc Try.prog W 0 (fun _ => true) true m4 27 [x4_0, x4_1, x4_2] = _ := t4
  obtain ⟨ys4, g4, _, xe4, _, q4, b4⟩ := DataW.trod_struct Try.underlying27 t4
  obtain ⟨y4_0, s4_0⟩ := trod_field (L' := [x4_0]) (b4 0 _ rfl) (by rw [q4]; decide) (by kernel_rfl)
  obtain ⟨a4_0, rfl, f4_0⟩ := rd_int Try.underlying3 s4_0
  obtain ⟨y4_1, s4_1⟩ := trod_field (L' := [x4_1]) (b4 1 _ rfl) (by rw [q4]; decide) (by kernel_rfl)
  obtain ⟨a4_1, rfl, f4_1⟩ := rd_int Try.underlying3 s4_1
  obtain ⟨y4_2, s4_2⟩ := trod_field (L' := [x4_2]) (b4 2 _ rfl) (by rw [q4]; decide) (by kernel_rfl)
  obtain ⟨a4_2, rfl, f4_2⟩ := rd_int Try.underlying3 s4_2
  have r4 : AVR (argM W) (.agg [.int .i64 a4_0, .int .i64 a4_1, .int .i64 a4_2]) (.agg #[.int .i64 a4_0, .int .i64 a4_1, .int .i64 a4_2]) := by
    refine ⟨_, rfl, rfl, fun i v hi => ?_⟩
    match i, hi with
    | 0, hi => cases hi; exact ⟨_, rfl, rfl⟩
    | 1, hi => cases hi; exact ⟨_, rfl, rfl⟩
    | 2, hi => cases hi; exact ⟨_, rfl, rfl⟩
    | i + 3, hi => simp at hi
  obtain ⟨a5, rfl, rfl, rfl, w5⟩ := open_int Try.underlying3 (hval 5 3 v5 rfl rfl) h5
  have f5 := lit_inR w5
  have r5 : AVR (argM W) (.one (.int .i64 a5)) (.int .i64 a5) := rfl
  obtain ⟨a6, rfl, rfl, rfl, w6⟩ := open_int Try.underlying3 (hval 6 3 v6 rfl rfl) h6
  have f6 := lit_inR w6
  have r6 : AVR (argM W) (.one (.int .i64 a6)) (.int .i64 a6) := rfl
  have hR : ArgsR (argM W) [.agg [.int .i64 a0_0, .int .i64 a0_1, .int .i64 a0_2, .ro (.arcs a0_3)], .one (.ro (.ints .i64 a1)), .one (.int .i64 a2), .one (.int .i64 a3), .agg [.int .i64 a4_0, .int .i64 a4_1, .int .i64 a4_2], .one (.int .i64 a5), .one (.int .i64 a6)] [(.agg #[.int .i64 a0_0, .int .i64 a0_1, .int .i64 a0_2, x0_3]), (.slice A1 n1 c1), (.int .i64 a2), (.int .i64 a3), (.agg #[.int .i64 a4_0, .int .i64 a4_1, .int .i64 a4_2]), (.int .i64 a5), (.int .i64 a6)] := by
    refine ⟨rfl, fun i v hi => ?_⟩
    match i, hi with
    | 0, hi => cases hi; exact ⟨_, rfl, r0⟩
    | 1, hi => cases hi; exact ⟨_, rfl, r1⟩
    | 2, hi => cases hi; exact ⟨_, rfl, r2⟩
    | 3, hi => cases hi; exact ⟨_, rfl, r3⟩
    | 4, hi => cases hi; exact ⟨_, rfl, r4⟩
    | 5, hi => cases hi; exact ⟨_, rfl, r5⟩
    | 6, hi => cases hi; exact ⟨_, rfl, r6⟩
    | i + 7, hi => simp at hi
  have z0 : ∀ n ∈ d0.weights Try.prog 24, n ≤ reachBytes := fun n hn => by
    have q := List.all_eq_true.1 hsz n (DataW.weights_mem_each (j := 0) rfl rfl n hn)
    simpa using q
  have sz0_3 := sz_arcs Try.underlying22 (by kernel_rfl) s0_3 (sz_field Try.underlying24 xe0 z0 (i := 3) rfl ((b0 3 _ rfl).symm.trans s0_3)) r0_3
  refine ((repairSays_law a0_0 a0_1 a0_2 a0_3 a1 a2 a3 a4_0 a4_1 a4_2 a5 a6 sz0_3).run (argM W) [(.agg #[.int .i64 a0_0, .int .i64 a0_1, .int .i64 a0_2, x0_3]), (.slice A1 n1 c1), (.int .i64 a2), (.int .i64 a3), (.agg #[.int .i64 a4_0, .int .i64 a4_1, .int .i64 a4_2]), (.int .i64 a5), (.int .i64 a6)] rfl (argM_ok W) hR).mono fun e W' hq => ?_
  obtain ⟨v, u, M', rfl, ⟨rfl, _⟩, hvu, _, rfl, hext⟩ := hq
  obtain rfl : u = .bool true := hvu
  have hb := argM_below hext
  exact ⟨_, rfl, post_kept (pv := []) hW' (fun _ _ _ => trodAll_cons_mk (shut_bool Try.underlying4 _) trodAll_mk0) (fun sp hsp => args_stay laidOut hb (by kernel_rfl) hAk (fun x hx => hW'.lt x (List.mem_append_left _ hx)) (fun x hx => hsp x (List.mem_append_left _ hx))) (fun _ _ => rfl) rfl hb
    (ok_one (by kernel_rfl) rfl (okWide_bool_mk Try.underlying4 _))⟩

set_option maxRecDepth 100000 in
theorem lifted (os : Os) (started : os.Started) (H : Type) (enc : TypeId × Value → H) :
    ReturnsInHanded {} Try.checked os 3 .any (Rows.repairSaysSpec.pre6 enc Try.prog Try.f3 Rows.repairSaysRow.domain false) (Rows.repairSaysSpec.post enc Try.prog Try.f3 false true false false) := by
  refine returnsInHanded_of_change_sized (C := Try.checked) own started (by kernel_rfl) Try.func3
    (ChangeSpec.witness6 (enc := enc) (C := Try.checked) false ⟨#[], #[.agg #[.int .i64 0, .int .i64 0, .int .i64 0, .slice none 0 0], .slice none 0 0, .int .i64 0, .int .i64 0, .agg #[.int .i64 0, .int .i64 0, .int .i64 0], .int .i64 0, .int .i64 0], []⟩ 8 (by kernel_rfl) (by kernel_rfl) (by kernel_rfl) (by kernel_rfl)) ?_
  intro W base args ds gs before hval hW _ hsz _
  exact contract H enc W base args ds gs before hval hW hsz

theorem proved : Rows.RepairSaysSaid :=
  OpenClaim.holds_of_wide 3 Try.f3 rfl rfl rfl rfl rfl rfl rfl ⟨rfl, rfl, rfl, rfl, rfl⟩ rfl rfl rfl rfl rfl (by kernel_rfl) Try.func3 (by kernel_rfl)
    (of_decide_eq_true (by kernel_rfl)) (by unfold Func.isWrapper; first | (rw [if_pos (by decide +kernel)]; kernel_rfl) | (rw [if_neg (by decide +kernel)]; exact ⟨rfl, rfl⟩))
    (fun os started H enc _ => lifted os started H enc)

end Go.Proofs.Ytnfnlgfdfmnghaa.repairSays
