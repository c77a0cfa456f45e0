/- The page's example of package code holds: awake answers true. No condition. -/
import Derived.Test.YtoklhhcjcecbbaaH5
import Derived.Test.YtoklhhcjcecbbaaWEqStruct
namespace Go.Proofs.Ytoklhhcjcecbbaa.M
open Go.RowKit Go.Proofs.YtoklhhcjcecbbaaW.PrintWords Go.Proofs.YtoklhhcjcecbbaaW.PrintLast Go.Proofs.YtoklhhcjcecbbaaW.PrintMore
set_option linter.unusedVariables false
set_option linter.unusedSimpArgs false
theorem eqInstr (d : Nat) (w : World) (x0 y0 x1 y1 : Int) :
    (Op.equalIn (d + 2) 66 (.agg #[.int .i64 x0, .int .i64 x1]) (.agg #[.int .i64 y0, .int .i64 y1])).run Try.prog w = .ok (x0 == y0 && x1 == y1) w := by
  refine eqA_of Try.underlying66 (by kernel_rfl) ?_
  refine eqf_cons (by rfl) (by go_simp; rfl) (by go_simp; rfl) (by go_simp) ?_
  exact eqf_last (by rfl) (by go_simp; rfl) (by go_simp; rfl) (by go_simp)
theorem fieldInstr0 (a b : Int) (w : World) : (Instr.field 66 (.agg #[.int .i64 a, .int .i64 b]) 0).run Try.prog w = .ok (.int .i64 a) w := by kernel_rfl
theorem fieldInstr1 (a b : Int) (w : World) : (Instr.field 66 (.agg #[.int .i64 a, .int .i64 b]) 1).run Try.prog w = .ok (.int .i64 b) w := by kernel_rfl
attribute [local go_sem ↓] eqInstr
theorem rows_lit (W : World) (xs : List Int) (hm : xs.length ≤ 9223372036854775807) (cs : Array Value) (hcs : cs = (nums .u64 xs).toArray) : Rows encU 1 (W.alloc (.cells cs 72)) (some ⟨W.heap.size, 0, none⟩) xs := by
  subst hcs
  refine ⟨hm, fun hn => ⟨_, rfl, fun j x hx i v hv => ?_⟩⟩
  have hi : i = 0 := by
    have := (List.getElem?_eq_some_iff.1 hv).1
    simp at this
    exact this
  subst hi
  simp at hv
  subst hv
  have hadd : (⟨W.heap.size, 0, none⟩ : Addr).add (j * 1 + 0) = ⟨W.heap.size, j, none⟩ := by unfold Addr.add; split <;> simp_all
  rw [hadd]
  exact (Blk.new W _ _).cell j _ (by simp [nums, hx])

end Go.Proofs.Ytoklhhcjcecbbaa.M
