/- What the reference's Bits answers. Condition: a word of 64 bits. -/
import Derived.Test.YtkmfbafgbaapiaaMw2
namespace Go.Proofs.Ytkmfbafgbaapiaa.M
open Go.RowKit Go.Proofs.YtkmfbafgbaapiaaW.PrintWords Go.Proofs.YtkmfbafgbaapiaaW.PrintLast Go.Proofs.YtkmfbafgbaapiaaW.PrintMore
set_option linter.unusedVariables false
set_option linter.unusedSimpArgs false

theorem half (x : Int) (k : Nat) (h0 : 0 ≤ x) (h1 : x < 18446744073709551616) : IntKind.u64.wrap ((x / 2 ^ k).tdiv 2) = x / 2 ^ (k + 1) := by
  have p0 : (0 : Int) < 2 ^ k := Int.pow_pos (by omega)
  have a0 : 0 ≤ x / 2 ^ k := Int.ediv_nonneg h0 (by omega)
  have a1 : x / 2 ^ k ≤ x := Int.ediv_le_self _ h0
  have e : (x / 2 ^ k) / 2 = x / 2 ^ (k + 1) := by rw [Int.ediv_ediv_of_nonneg (by omega)]; rfl
  rw [Int.tdiv_eq_ediv_of_nonneg a0, e, u64_in]
  · rw [← e]; omega
  · rw [← e]; omega

theorem bitstep (x : Int) (j : Nat) (h0 : 0 ≤ x) (h1 : x < 18446744073709551616) (hj : j < 64) (y o u : Int) (H : y = x / 2 ^ j ∧ o = x % 2 ^ j ∧ u = IntKind.u64.wrap (2 ^ j)) :
    IntKind.u64.wrap (y.tdiv 2) = x / 2 ^ (j + 1) ∧ IntKind.u64.wrap (o + IntKind.u64.wrap (y.tmod 2 * u)) = x % 2 ^ (j + 1) ∧ IntKind.u64.wrap (2 * u) = IntKind.u64.wrap (2 ^ (j + 1)) := by
  obtain ⟨rfl, rfl, rfl⟩ := H
  have p1 : (2 : Int) ^ j ≤ 2 ^ 63 := by
    have : (2 : Nat) ^ j ≤ 2 ^ 63 := Nat.pow_le_pow_right (by omega) (by omega)
    exact_mod_cast this
  have p0 : (0 : Int) < 2 ^ j := Int.pow_pos (by omega)
  have p2 : (2 : Int) ^ (j + 1) = 2 ^ j * 2 := rfl
  have e0 : IntKind.u64.wrap (2 ^ j) = 2 ^ j := u64_in _ (by omega) (by omega)
  have a0 : 0 ≤ x / 2 ^ j := Int.ediv_nonneg h0 (by omega)
  refine ⟨half x j h0 h1, ?_, by rw [e0, p2, Int.mul_comm]⟩
  rw [e0, Int.tmod_eq_emod_of_nonneg a0]
  have e1 : x % 2 ^ (j + 1) = x % 2 ^ j + x / 2 ^ j % 2 * 2 ^ j := by
    obtain ⟨n, rfl⟩ := Int.eq_ofNat_of_zero_le h0
    have := Nat.mod_mul (a := 2 ^ j) (b := 2) (x := n)
    have h2 : n % 2 ^ (j + 1) = n % 2 ^ j + n / 2 ^ j % 2 * 2 ^ j := by rw [Nat.mul_comm (n / 2 ^ j % 2)]; exact this
    exact_mod_cast h2
  have b0 : 0 ≤ x / 2 ^ j % 2 ∧ x / 2 ^ j % 2 ≤ 1 := by omega
  have c0 : 0 ≤ x % 2 ^ (j + 1) := Int.emod_nonneg _ (by omega)
  have c1 : x % 2 ^ (j + 1) ≤ x := by
    have q := Int.mul_ediv_add_emod x (2 ^ (j + 1))
    have q0 : 0 ≤ 2 ^ (j + 1) * (x / 2 ^ (j + 1)) := Int.mul_nonneg (by omega) (Int.ediv_nonneg h0 (by omega))
    omega
  have c2 : 0 ≤ x % 2 ^ j := Int.emod_nonneg _ (by omega)
  have hm : 0 ≤ x / 2 ^ j % 2 * 2 ^ j ∧ x / 2 ^ j % 2 * 2 ^ j ≤ 2 ^ 63 := by
    rcases (show x / 2 ^ j % 2 = 0 ∨ x / 2 ^ j % 2 = 1 by omega) with h | h <;> rw [h] <;> omega
  rw [u64_in (x / 2 ^ j % 2 * 2 ^ j) hm.1 (by omega), ← e1, u64_in _ c0 (by omega)]

def rBits (x a b : Int) : Int := if 0 ≤ a ∧ a < 64 ∧ 0 ≤ b ∧ b ≤ 64 then x / 2 ^ a.toNat % 2 ^ b.toNat else 0

set_option maxHeartbeats 1000000 in
theorem refBits_calls (x a b : Int) (h0 : 0 ≤ x) (h1 : x < 18446744073709551616) (ha : 0 ≤ a) (ha' : a < 64) (hb : 0 ≤ b) (hb' : b ≤ 64) (w : World) :
    Calls Try.prog 17 #[.int .u64 x, .int .i64 a, .int .i64 b] w fun e w' => e = .returned (.int .u64 (x / 2 ^ a.toNat % 2 ^ b.toNat)) ∧ Bw w w' := by
  have HB := Aside0.mk (Bw.refl w)
  have H0 := Aside0.mk h0
  have H1 := Aside0.mk h1
  have HX : Aside0 (0 ≤ x / 2 ^ a.toNat ∧ x / 2 ^ a.toNat < 18446744073709551616) := by
    have p0 : (0 : Int) < 2 ^ a.toNat := Int.pow_pos (by omega)
    have : x / 2 ^ a.toNat ≤ x := Int.ediv_le_self _ h0
    exact ⟨Int.ediv_nonneg h0 (by omega), by omega⟩
  clear h0 h1
  have d1 : decide (a < 0) = false := by simp; omega
  have d2 : decide (63 < a) = false := by simp; omega
  have d3 : decide (b < 0) = false := by simp; omega
  have d4 : decide (64 < b) = false := by simp; omega
  go_enter Try.func17, Try.ntmps17
  go_wp2
  go_loop [0, 7] (fun v i => ∃ (k : Nat) (y : Int), (k : Int) ≤ a ∧ i = .int .i64 k ∧ v = .int .u64 y ∧ Aside0 (y = x / 2 ^ k)) (fun _ i => (a - intOf i).toNat)
  case atStart => exact ⟨0, x, by omega, rfl, rfl, ⟨by simp⟩⟩
  case round =>
    obtain ⟨k, y, hk, rfl, rfl, HY⟩ := hrel
    by_cases hlt : (k : Int) < a
    · go_wp2
      go_round
      case rel => exact ⟨k + 1, _, by omega, by go_num, rfl, ⟨by rw [HY.out]; exact half x k H0.out H1.out⟩⟩
      case measure => simp [intOf]; omega
    · have hka : k = a.toNat := by omega
      have HKA := Aside0.mk hka
      clear hka
      go_wp2
      go_loop [0, 8, 9, 10] (fun v o u i => ∃ (j : Nat) (y ov uv : Int), (j : Int) ≤ b ∧ i = .int .i64 j ∧ v = .int .u64 y ∧ o = .int .u64 ov ∧ u = .int .u64 uv ∧ Aside0 (y = x / 2 ^ a.toNat / 2 ^ j ∧ ov = x / 2 ^ a.toNat % 2 ^ j ∧ uv = IntKind.u64.wrap (2 ^ j))) (fun _ _ _ i => (b - intOf i).toNat)
      case atStart => exact ⟨0, _, _, _, by omega, rfl, rfl, rfl, rfl, ⟨by rw [HY.out, HKA.out]; refine ⟨by simp, by simp [Int.emod_one], rfl⟩⟩⟩
      case round =>
        obtain ⟨j, y2, ov, uv, hj, rfl, rfl, rfl, rfl, HJ⟩ := hrel
        by_cases hlt2 : (j : Int) < b
        · go_wp2
          go_round
          case rel =>
            refine ⟨j + 1, _, _, _, by omega, by go_num, rfl, rfl, rfl, ⟨?_⟩⟩
            exact bitstep _ j HX.out.1 HX.out.2 (by omega) _ _ _ HJ.out
          case measure => simp [intOf]; omega
        · go_wp2
          have hjb : j = b.toNat := by omega
          go_ret
          exact ⟨ret_int (by rw [HJ.out.2.1, hjb]), HB.out⟩
theorem refBits_out (x a b : Int) (ho : ¬ (0 ≤ a ∧ a < 64 ∧ 0 ≤ b ∧ b ≤ 64)) (w : World) :
    Calls Try.prog 17 #[.int .u64 x, .int .i64 a, .int .i64 b] w fun e w' => e = .returned (.int .u64 0) ∧ Bw w w' := by
  have HB := Aside0.mk (Bw.refl w)
  by_cases d1 : a < 0
  · clear ho
    go_enter Try.func17, Try.ntmps17
    go_wp2
    go_ret
    exact ⟨rfl, HB.out⟩
  · have e1 : decide (a < 0) = false := by simp; omega
    by_cases d2 : 63 < a
    · clear ho d1
      go_enter Try.func17, Try.ntmps17
      go_wp2
      go_ret
      exact ⟨rfl, HB.out⟩
    · have e2 : decide (63 < a) = false := by simp; omega
      by_cases d3 : b < 0
      · clear ho d1 d2
        go_enter Try.func17, Try.ntmps17
        go_wp2
        go_ret
        exact ⟨rfl, HB.out⟩
      · have e3 : decide (b < 0) = false := by simp; omega
        have d4 : 64 < b := by omega
        clear ho d1 d2 d3
        go_enter Try.func17, Try.ntmps17
        go_wp2
        go_ret
        exact ⟨rfl, HB.out⟩
theorem Bits_out (x a b : Int) (ho : ¬ (0 ≤ a ∧ a < 64 ∧ 0 ≤ b ∧ b ≤ 64)) (w : World) :
    Calls Try.prog 16 #[.int .u64 x, .int .i64 a, .int .i64 b] w fun e w' => e = .returned (.int .u64 0) ∧ Bw w w' := by
  have HB := Aside0.mk (Bw.refl w)
  by_cases d1 : a < 0
  · clear ho
    go_enter Try.func16, Try.ntmps16
    go_wp2
    go_ret
    exact ⟨rfl, HB.out⟩
  · have e1 : decide (a < 0) = false := by simp; omega
    by_cases d2 : 64 ≤ a
    · clear ho d1
      go_enter Try.func16, Try.ntmps16
      go_wp2
      go_ret
      exact ⟨rfl, HB.out⟩
    · have e2 : decide (64 ≤ a) = false := by simp; omega
      by_cases d3 : b < 0
      · clear ho d1 d2
        go_enter Try.func16, Try.ntmps16
        go_wp2
        go_ret
        exact ⟨rfl, HB.out⟩
      · have e3 : decide (b < 0) = false := by simp; omega
        have d4 : 64 < b := by omega
        clear ho d1 d2 d3
        go_enter Try.func16, Try.ntmps16
        go_wp2
        go_ret
        exact ⟨rfl, HB.out⟩
theorem refBits_any (x a b : Int) (h0 : 0 ≤ x) (h1 : x < 18446744073709551616) (w : World) :
    Calls Try.prog 17 #[.int .u64 x, .int .i64 a, .int .i64 b] w fun e w' => e = .returned (.int .u64 (rBits x a b)) ∧ Bw w w' := by
  unfold rBits
  split
  · rename_i h
    exact refBits_calls x a b h0 h1 h.1 h.2.1 h.2.2.1 h.2.2.2 w
  · rename_i h
    exact refBits_out x a b h w
theorem Bits_any (x a b : Int) (h0 : 0 ≤ x) (h1 : x < 18446744073709551616) (w : World) :
    Calls Try.prog 16 #[.int .u64 x, .int .i64 a, .int .i64 b] w fun e w' => e = .returned (.int .u64 (rBits x a b)) ∧ Bw w w' := by
  unfold rBits
  split
  · rename_i h
    exact Bits_calls x a b h0 h1 h.1 h.2.1 h.2.2.1 h.2.2.2 w
  · rename_i h
    exact Bits_out x a b h w
end Go.Proofs.Ytkmfbafgbaapiaa.M
