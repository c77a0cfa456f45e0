/- The law FlowChains: whatever the input, it answers true, and its arguments read as they did. Conditions: none. Out of the walk FlowChains_walk. -/
import Derived.Test.YtclippikdfcgkaaRows
import Derived.Test.YtclippikdfcgkaaMfg
import Derived.WalkKit
import Derived.ProofKit
import Derived.OpenShut
import Derived.ShutString
import Derived.ChangeOld
import Derived.Below
import Derived.SizedLaws
import Derived.Test.YtclippikdfcgkaaMr
namespace Go.Proofs.Ytclippikdfcgkaa.flowChains
open Go.ChangeShapes Go.WideShapes Go.ChangeAt Go.RowKit Go.Proofs.Ytclippikdfcgkaa.M
open Go.ChangeMaps (open_string shut_string)
set_option linter.unusedVariables false
theorem own : ownKnob Try.prog.godebug = none := by kernel_rfl
theorem laidOut : laidOutB Try.prog = true := by kernel_rfl
set_option maxRecDepth 100000 in
theorem lifted (os : Os) (started : os.Started) (H : Type) (enc : TypeId × Value → H) :
    ReturnsInHanded {} Try.checked os 11 .any (Rows.flowChainsSpec.pre6 enc Try.prog Try.f11 Rows.flowChainsRow.domain false) (Rows.flowChainsSpec.post enc Try.prog Try.f11 false true false false) := by
  refine returnsInHanded_of_change_sized (C := Try.checked) own started (by kernel_rfl) Try.func11
    (ChangeSpec.witness6 (enc := enc) (C := Try.checked) false ⟨#[], #[.slice none 0 0, .slice none 0 0, .slice none 0 0], []⟩ 8 (by kernel_rfl) (by kernel_rfl) (by kernel_rfl) (by kernel_rfl)) ?_
  intro W base args ds gs before hval0 hW hcnd hsz0 _
  have hsz : (DataW.weightsEach Try.prog (Try.f11.params.toList ++ Rows.flowChainsSpec.plain.varTypes Try.prog) (ds ++ gs)).all (· ≤ reachBytes) = true := hsz0
  have hval : ∀ (j : Nat) t v, Try.f11.params[j]? = some t → args[j]? = some v → Value.okWide Try.prog W .any base t v := hval0
  have hW' := hW
  obtain ⟨p, q, hA0, hV, rfl, hfz, hnd⟩ := hW
  have hA : DataW.TrodAll enc Try.prog W 0 (fun _ => true) true Try.f11.params.toList args.toList ds p := hA0
  rw [Try.params11] at hA hval hsz
  obtain ⟨v0, vs0, d0, ds0, p0, q0, hargs, rfl, rfl, h0, r0⟩ := trodAll_cons hA
  obtain ⟨v1, vs1, d1, ds1, p1, q1, rfl, rfl, rfl, h1, r1⟩ := trodAll_cons r0
  obtain ⟨v2, vs2, d2, ds2, p2, q2, rfl, rfl, rfl, h2, r2⟩ := trodAll_cons r1
  obtain ⟨rfl, rfl, rfl⟩ := trodAll_nil r2
  obtain rfl : args = #[v0, v1, v2] := by cases args; simp_all
  obtain ⟨rfl, rfl⟩ := trodVars_none hV
  have k0 := h0
  have lt0 : ∀ x ∈ p0, x.block < W.heap.size := by obtain ⟨m, hm⟩ := k0; exact DataW.trod_lt m _ _ _ hm
  obtain ⟨a0, len0, cap0, rfl⟩ := okWide_slice Try.underlying41 (hval 0 41 v0 rfl rfl)
  have f0 := open_rows (ks := [.int .u64]) (m := 9) Try.underlying41 (by kernel_rfl) (by kernel_rfl) h0
  have y0 : len0 * 8 ≤ 140737488351232 := sized_rows hsz (j := 0) (t := 41) rfl rfl Try.underlying41 (by kernel_rfl) h0
  have k1 := h1
  have lt1 : ∀ x ∈ p1, x.block < W.heap.size := by obtain ⟨m, hm⟩ := k1; exact DataW.trod_lt m _ _ _ hm
  obtain ⟨a1, len1, cap1, rfl⟩ := okWide_slice Try.underlying113 (hval 1 113 v1 rfl rfl)
  have f1 := open_rows (ks := [.int .i64, .int .i64, .int .i64, .int .u64, .int .u64, .bool]) (m := 9) Try.underlying113 (by kernel_rfl) (by kernel_rfl) h1
  have y1 : len1 * 48 ≤ 140737488351232 := sized_rows hsz (j := 1) (t := 113) rfl rfl Try.underlying113 (by kernel_rfl) h1
  have k2 := h2
  have lt2 : ∀ x ∈ p2, x.block < W.heap.size := by obtain ⟨m, hm⟩ := k2; exact DataW.trod_lt m _ _ _ hm
  obtain ⟨a2, len2, cap2, rfl⟩ := okWide_slice Try.underlying114 (hval 2 114 v2 rfl rfl)
  have f2 := open_rows (ks := [.bool, .int .i64, .int .i64, .int .i64, .int .u64, .int .u64]) (m := 9) Try.underlying114 (by kernel_rfl) (by kernel_rfl) h2
  have y2 : len2 * 48 ≤ 140737488351232 := sized_rows hsz (j := 2) (t := 114) rfl rfl Try.underlying114 (by kernel_rfl) h2
  clear hA0 hval0 hsz0 hsz
  refine (FlowChains_walk (w := W) a0 len0 cap0 f0 y0 a1 len1 cap1 f1 y1 a2 len2 cap2 f2 y2).mono fun e W' ⟨he, bel⟩ => ?_
  subst he
  exact ⟨_, rfl, _, _, _, [], _, [], hW', trodAll_mk1 (shut_bool Try.underlying4 _), (trodAll_cons_mk (Below.trod laidOut (by kernel_rfl) (of_decide_eq_true (by kernel_rfl)) k0 bel lt0) (trodAll_cons_mk (Below.trod laidOut (by kernel_rfl) (of_decide_eq_true (by kernel_rfl)) k1 bel lt1) (trodAll_cons_mk (Below.trod laidOut (by kernel_rfl) (of_decide_eq_true (by kernel_rfl)) k2 bel lt2) trodAll_mk0))), rfl, bel.frame _, fun h => by cases h⟩
theorem over : Rows.flowChainsRow.holds Try.pinned (OpenSpec.ofChange Rows.flowChainsSpec) :=
  OpenClaim.holds_of_wide 11 Try.f11 rfl rfl rfl rfl rfl rfl rfl ⟨rfl, rfl, rfl, rfl, rfl⟩ rfl rfl rfl rfl rfl (by kernel_rfl) Try.func11 (by kernel_rfl)
    (of_decide_eq_true (by kernel_rfl)) (by unfold Func.isWrapper; first | (rw [if_pos (by decide +kernel)]; kernel_rfl) | (rw [if_neg (by decide +kernel)]; exact ⟨rfl, rfl⟩))
    (fun os started H enc _ => lifted os started H enc)
theorem proved : Rows.FlowChainsSaid := over
#print axioms proved
end Go.Proofs.Ytclippikdfcgkaa.flowChains
namespace Go.Proofs.Ytclippikdfcgkaa
/-- The row, under a short name, for the claim. -/
theorem flowChains_holds : Rows.FlowChainsSaid := flowChains.proved
end Go.Proofs.Ytclippikdfcgkaa
