/- What Bits of package word answers. Conditions: the arguments are of their kinds. -/
import Derived.Test.YtoklhhcjcecbbaaMk
namespace Go.Proofs.Ytoklhhcjcecbbaa.M
open Go.RowKit Go.Proofs.YtoklhhcjcecbbaaW.PrintWords Go.Proofs.YtoklhhcjcecbbaaW.PrintLast Go.Proofs.YtoklhhcjcecbbaaW.PrintMore
set_option linter.unusedVariables false
set_option linter.unusedSimpArgs false

set_option maxHeartbeats 400000 in
theorem Bits_calls (x a b : Int) (h0 : 0 ≤ x) (h1 : x < 18446744073709551616) (ha : 0 ≤ a) (ha' : a < 64) (hb : 0 ≤ b) (hb' : b ≤ 64) (w : World) :
    Calls Try.prog 78 #[.int .u64 x, .int .i64 a, .int .i64 b] w fun e w' => e = .returned (.int .u64 (x / 2 ^ a.toNat % 2 ^ b.toNat)) ∧ Bw w w' := by
  have HB := Aside0.mk (Bw.refl w)
  have HX : Aside0 (0 ≤ x / 2 ^ a.toNat ∧ x / 2 ^ a.toNat < 18446744073709551616) := by
    have p0 : (0 : Int) < 2 ^ a.toNat := Int.pow_pos (by omega)
    have : x / 2 ^ a.toNat ≤ x := Int.ediv_le_self _ h0
    exact ⟨Int.ediv_nonneg h0 (by omega), by omega⟩
  clear h0 h1
  have h1 : decide (a < 0) = false := by simp; omega
  have h2 : decide (64 ≤ a) = false := by simp; omega
  have h3 : decide (b < 0) = false := by simp; omega
  have h4 : decide (64 < b) = false := by simp; omega
  by_cases h : b = 64
  · subst h
    go_enter Try.func78, Try.ntmps78
    go_wp2
    go_ret
    refine ⟨ret_int ?_, HB.out⟩
    have := HX.out
    exact (Int.emod_eq_of_lt this.1 this.2).symm
  · have h5 : (b == 64) = false := by simpa using h
    have HL : Aside0 (b.toNat < 64) := ⟨by omega⟩
    clear h
    go_enter Try.func78, Try.ntmps78
    go_wp2
    go_ret
    exact ⟨ret_int (mask64 _ HX.out.1 HX.out.2 _ HL.out), HB.out⟩
end Go.Proofs.Ytoklhhcjcecbbaa.M
