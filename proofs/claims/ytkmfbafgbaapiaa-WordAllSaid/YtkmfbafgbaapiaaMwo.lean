/- The law WordAll, for any arguments. Conditions: the arguments are of their kinds. -/
import Derived.Test.YtkmfbafgbaapiaaMwn
namespace Go.Proofs.Ytkmfbafgbaapiaa.M
open Go.RowKit Go.Proofs.YtkmfbafgbaapiaaW.PrintWords Go.Proofs.YtkmfbafgbaapiaaW.PrintLast Go.Proofs.YtkmfbafgbaapiaaW.PrintMore
set_option linter.unusedVariables false
set_option linter.unusedSimpArgs false
set_option maxHeartbeats 4000000 in
set_option maxRecDepth 100000 in
theorem WordAll_walk (w : World) (a0 : Option Addr) (n0 cap0 : Nat) (f0 : RdRow [.int .u64] w a0 n0 cap0) (y0 : n0 * 8 ≤ 140737488351232) (n : Int) (wn : (Lit.int .i64 n).wf = true)
    (a2 : Option Addr) (n2 cap2 : Nat) (f2 : RdRow [.int .i64, .int .i64] w a2 n2 cap2) (y2 : n2 * 16 ≤ 140737488351232) :
    Calls Try.prog 6 #[.slice a0 n0 cap0, .int .i64 n, .slice a2 n2 cap2] w fun e w' => e = .returned (.bool true) ∧ Bw w w' := by
  obtain ⟨xs, rfl, hx, hxw⟩ := rd_ints f0
  obtain ⟨l, rfl, hl, hlw⟩ := rd_pairs f2
  have HB := Aside0.mk (Bw.refl w)
  by_cases h1 : xs.length ≤ 100
  · by_cases h2 : l.length ≤ 100
    · exact WordAll_core a0 cap0 xs n a2 cap2 l w hx h1 (fun x hxm => wf_u64 (hxw x hxm)) hl h2
    · have d1 : decide ((100 : Int) < (xs.length : Int)) = false := by simp; omega
      have d2 : decide ((100 : Int) < (l.length : Int)) = true := by simp; omega
      clear f0 f2 hx hxw hl hlw wn
      go_enter Try.func6, Try.ntmps6
      go_wp2_with fail
      refine (wawake_calls _).mono ?_
      rintro e w1 ⟨rfl, hb1⟩
      go_wp2_with fail
      go_ret
      exact ⟨rfl, HB.out.trans hb1⟩
  · have d1 : decide ((100 : Int) < (xs.length : Int)) = true := by simp; omega
    clear f0 f2 hx hxw hl hlw wn
    go_enter Try.func6, Try.ntmps6
    go_wp2_with fail
    refine (wawake_calls _).mono ?_
    rintro e w1 ⟨rfl, hb1⟩
    go_wp2_with fail
    go_ret
    exact ⟨rfl, HB.out.trans hb1⟩
end Go.Proofs.Ytkmfbafgbaapiaa.M
