/- The laws WordBits and WordReads, walked: they answer true. Conditions: the arguments are of their kinds. -/
import Derived.Test.YtkmfbafgbaapiaaMwa
import Derived.Test.YtkmfbafgbaapiaaMwb
namespace Go.Proofs.Ytkmfbafgbaapiaa.M
open Go.RowKit Go.Proofs.YtkmfbafgbaapiaaW.PrintWords Go.Proofs.YtkmfbafgbaapiaaW.PrintLast Go.Proofs.YtkmfbafgbaapiaaW.PrintMore
set_option linter.unusedVariables false
set_option linter.unusedSimpArgs false

set_option maxHeartbeats 1000000 in
theorem WordBits_walk (x : Int) (wx : (Lit.int .u64 x).wf = true) (a : Int) (wa : (Lit.int .i64 a).wf = true) (b : Int) (wb : (Lit.int .i64 b).wf = true) (w : World) :
    Calls Try.prog 3 #[.int .u64 x, .int .i64 a, .int .i64 b] w fun e w' => e = .returned (.bool true) ∧ Bw w w' := by
  have HB := Aside0.mk (Bw.refl w)
  obtain ⟨h0, h1⟩ := wf_u64 wx
  clear wx wa wb
  go_enter Try.func3, Try.ntmps3
  go_wp2_with fail
  refine (wawake_calls _).mono ?_
  rintro e w1 ⟨rfl, hb1⟩
  go_wp2_with fail
  refine (Bits_any x a b h0 h1 _).mono ?_
  rintro e w2 ⟨rfl, hb2⟩
  go_wp2_with fail
  refine (refBits_any x a b h0 h1 _).mono ?_
  rintro e w3 ⟨rfl, hb3⟩
  go_wp2_with fail
  go_ret
  exact ⟨by simp, ((HB.out.trans hb1).trans hb2).trans hb3⟩
end Go.Proofs.Ytkmfbafgbaapiaa.M
