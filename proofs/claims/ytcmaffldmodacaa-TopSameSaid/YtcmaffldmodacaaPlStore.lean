/- Of a store's net that grows arc by arc: the plain laws. -/
import Derived.Test.YtcmaffldmodacaaPlRepair2
namespace Go.Ab
theorem netErr_take {n s t : Int} {es : List Arc} (h : netErr n s t es = 0) (k : Nat) : netErr n s t (es.take k) = 0 := by
  have hok := netErr_ok h
  refine NOk.err ⟨⟨hok.n1, hok.n2, ?_, fun a ha => hok.arc a (List.mem_of_mem_take ha)⟩, hok.s0, hok.s1, hok.t0, hok.t1, hok.ne⟩
  have := hok.len
  rw [List.length_take]; omega
/-- A net without arcs: nothing goes. -/
theorem rep_none {n s t : Int} (h : netErr n s t [] = 0) : repErr n s t [] [] = 0 := by
  have hf := flowErr_zeros h
  have hfo := flowErr_ok hf
  obtain ⟨z, hz⟩ := MinCut.exists_ hfo.net
  exact repErr_none hf (greatest hfo hz.1 (fun k hk => by cases hk))
/-- An arc more. -/
theorem rep_next {n s t N S T v e : Int} {es A : List Arc} {f g : List Int} {a : Arc} (h : repErr n s t es f = 0) (hn : netErr n s t (es ++ [a]) = 0) (hr : RepRes n s t (es ++ [a]) (addErr n s t es f n s t (es ++ [a])) N S T A g v e) : e = 0 ∧ N = n ∧ S = s ∧ T = t ∧ A = es ++ [a] ∧ repErr n s t (es ++ [a]) g = 0 := by
  have hx : addErr n s t es f n s t (es ++ [a]) = 0 := (addErr_net h).trans hn
  obtain ⟨z0, z⟩ := hr
  obtain ⟨_, z1, z2, z3, z4, z5, z6, z7⟩ := z.resolve_left (fun q => q.1 hx)
  exact ⟨z0.trans hx, z1, z2, z3, z4, repErr_none (flowErr_of z5 hn) (z6.trans z7)⟩
end Go.Ab
