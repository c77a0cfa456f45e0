/- Two entries held against each other, as one Bool. No condition. -/
import Derived.Test.YtkmfbafgbaapiaaMk
import Derived.Test.YtkmfbafgbaapiaaWEqStruct
namespace Go.Proofs.Ytkmfbafgbaapiaa.M
open Go.RowKit Go.Proofs.YtkmfbafgbaapiaaW.PrintWords Go.Proofs.YtkmfbafgbaapiaaW.PrintLast Go.Proofs.YtkmfbafgbaapiaaW.PrintMore
theorem eqEntry (d : Nat) (w : World) (x0 y0 x1 y1 : Int) :
    (Op.equalIn (d + 2) 27 (.agg #[.int .i64 x0, .int .i64 x1]) (.agg #[.int .i64 y0, .int .i64 y1])).run Try.prog w = .ok (x0 == y0 && x1 == y1) w := by
  refine eqA_of Try.underlying27 (by kernel_rfl) ?_
  refine eqf_cons (by rfl) (by go_simp; rfl) (by go_simp; rfl) (by go_simp) ?_
  exact eqf_last (by rfl) (by go_simp; rfl) (by go_simp; rfl) (by go_simp)
end Go.Proofs.Ytkmfbafgbaapiaa.M
