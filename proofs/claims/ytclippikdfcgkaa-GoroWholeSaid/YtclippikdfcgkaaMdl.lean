/- The page's example of package code holds: awake answers true. No condition. -/
import Derived.Test.YtclippikdfcgkaaMd5
import Derived.Test.YtclippikdfcgkaaWEqStruct
namespace Go.Proofs.Ytclippikdfcgkaa.M
open Go.RowKit Go.Proofs.YtclippikdfcgkaaW.PrintWords Go.Proofs.YtclippikdfcgkaaW.PrintLast Go.Proofs.YtclippikdfcgkaaW.PrintMore
set_option linter.unusedVariables false
set_option linter.unusedSimpArgs false
theorem eqInstr (d : Nat) (w : World) (x0 y0 x1 y1 : Int) :
    (Op.equalIn (d + 2) 48 (.agg #[.int .i64 x0, .int .i64 x1]) (.agg #[.int .i64 y0, .int .i64 y1])).run Try.prog w = .ok (x0 == y0 && x1 == y1) w := by
  refine eqA_of Try.underlying48 (by kernel_rfl) ?_
  refine eqf_cons (by rfl) (by go_simp; rfl) (by go_simp; rfl) (by go_simp) ?_
  exact eqf_last (by rfl) (by go_simp; rfl) (by go_simp; rfl) (by go_simp)
theorem fieldInstr0 (a b : Int) (w : World) : (Instr.field 48 (.agg #[.int .i64 a, .int .i64 b]) 0).run Try.prog w = .ok (.int .i64 a) w := by kernel_rfl
theorem fieldInstr1 (a b : Int) (w : World) : (Instr.field 48 (.agg #[.int .i64 a, .int .i64 b]) 1).run Try.prog w = .ok (.int .i64 b) w := by kernel_rfl
attribute [local go_sem ↓] eqInstr
theorem progs4 : progsOf [25, 0, 7, 18] = [[(1, 4), (0, 0)], [(2, 0)]] := by decide
theorem rows_lit (W : World) (xs : List Int) (hm : xs.length ≤ 9223372036854775807) (cs : Array Value) (hcs : cs = (nums .u64 xs).toArray) : Rows encU 1 (W.alloc (.cells cs 55)) (some ⟨W.heap.size, 0, none⟩) xs := by
  subst hcs
  refine ⟨hm, fun hn => ⟨_, rfl, fun j x hx i v hv => ?_⟩⟩
  have hi : i = 0 := by
    have := (List.getElem?_eq_some_iff.1 hv).1
    simp at this
    exact this
  subst hi
  simp at hv
  subst hv
  have hadd : (⟨W.heap.size, 0, none⟩ : Addr).add (j * 1 + 0) = ⟨W.heap.size, j, none⟩ := by unfold Addr.add; split <;> simp_all
  rw [hadd]
  exact (Blk.new W _ _).cell j _ (by simp [nums, hx])

set_option maxHeartbeats 1000000 in
set_option maxRecDepth 100000 in
theorem dawake_calls (w : World) :
    Calls Try.prog 20 #[] w fun e w' => e = .returned (.bool true) ∧ Bw w w' := by
  have HB := Aside0.mk (Bw.refl w)
  have hfd := fieldInstr0
  go_enter Try.func20, Try.ntmps20
  go_wp2_with fail
  refine (Read_calls _ 4 [25, 0, 7, 18] _ (rows_lit w [25, 0, 7, 18] (by simp) _ rfl) (by simp) (by simp) ).mono ?_
  rintro e w1 ⟨b, v, us, rfl, hc, hb1⟩
  rw [progs4] at hc
  have HC := Aside0.mk hc
  have HW1 := Aside0.mk ((HB.out.alloc _).trans hb1)
  clear hc hb1
  go_wp2_with fail
  refine (Len_calls HC.out).mono ?_
  rintro e w2 ⟨rfl, hb2⟩
  rw [show (([[(1, 4), (0, 0)], [(2, 0)]] : List (List (Int × Int))).length : Int) = 2 from rfl]
  have HC2 := Aside0.mk (HC.out.bw hb2)
  go_wp2_with fail
  refine (Long_calls 0 HC2.out).mono ?_
  rintro e w3 ⟨rfl, hb3⟩
  rw [show ((longOf [[(1, 4), (0, 0)], [(2, 0)]] 0 : Nat) : Int) = 2 from rfl]
  have HC3 := Aside0.mk (HC2.out.bw hb3)
  go_wp2_with fail
  refine (At_calls 0 0 HC3.out).mono ?_
  rintro e w4 ⟨rfl, hb4⟩
  rw [show insV (atOf [[(1, 4), (0, 0)], [(2, 0)]] 0 0) = .agg #[.int .i64 1, .int .i64 4] from rfl]
  have HC4 := Aside0.mk (HC3.out.bw hb4)
  go_wp2_with fail
  refine (At_calls 1 0 HC4.out).mono ?_
  rintro e w5 ⟨rfl, hb5⟩
  rw [show insV (atOf [[(1, 4), (0, 0)], [(2, 0)]] 1 0) = .agg #[.int .i64 2, .int .i64 0] from rfl]
  have HC5 := Aside0.mk (HC4.out.bw hb5)
  go_wp2_with fail
  refine (At_calls 1 1 HC5.out).mono ?_
  rintro e w6 ⟨rfl, hb6⟩
  rw [show insV (atOf [[(1, 4), (0, 0)], [(2, 0)]] 1 1) = .agg #[.int .i64 0, .int .i64 0] from rfl]
  go_wp2_with fail
  go_ret
  exact ⟨rfl, ((((HW1.out.trans hb2).trans hb3).trans hb4).trans hb5).trans hb6⟩
end Go.Proofs.Ytclippikdfcgkaa.M
