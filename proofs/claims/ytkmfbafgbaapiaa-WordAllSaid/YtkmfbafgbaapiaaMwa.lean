/- The page's examples of package word hold: awake answers true. No condition. -/
import Derived.Test.YtkmfbafgbaapiaaMw2
namespace Go.Proofs.Ytkmfbafgbaapiaa.M
open Go.RowKit Go.Proofs.YtkmfbafgbaapiaaW.PrintWords Go.Proofs.YtkmfbafgbaapiaaW.PrintLast Go.Proofs.YtkmfbafgbaapiaaW.PrintMore
set_option linter.unusedVariables false
set_option linter.unusedSimpArgs false

set_option maxHeartbeats 1000000 in
theorem wawake_calls (w : World) :
    Calls Try.prog 15 #[] w fun e w' => e = .returned (.bool true) ∧ Bw w w' := by
  have HB := Aside0.mk (Bw.refl w)
  go_enter Try.func15, Try.ntmps15
  go_wp2_with fail
  refine (Read_calls 17 9 (by omega) (by omega) _).mono ?_
  rintro e w1 ⟨rfl, hb1⟩
  rw [show entryV (rKind 17) (rWho 17 9) = .agg #[.int .i64 1, .int .i64 2] from rfl]
  go_wp2_with fail
  refine (Read_calls 22 9 (by omega) (by omega) _).mono ?_
  rintro e w2 ⟨rfl, hb2⟩
  rw [show entryV (rKind 22) (rWho 22 9) = .agg #[.int .i64 4, .int .i64 2] from rfl]
  go_wp2_with fail
  refine (Read_calls 5 9 (by omega) (by omega) _).mono ?_
  rintro e w3 ⟨rfl, hb3⟩
  rw [show entryV (rKind 5) (rWho 5 9) = .agg #[.int .i64 3, .int .i64 0] from rfl]
  go_wp2_with fail
  go_ret
  exact ⟨rfl, ((HB.out.trans hb1).trans hb2).trans hb3⟩
end Go.Proofs.Ytkmfbafgbaapiaa.M
