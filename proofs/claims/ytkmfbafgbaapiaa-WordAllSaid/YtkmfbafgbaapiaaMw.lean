/- What the functions of package word, and of its reference, answer. Conditions: the arguments are of their kinds. -/
import Derived.Test.YtkmfbafgbaapiaaMk
namespace Go.Proofs.Ytkmfbafgbaapiaa.M
open Go.RowKit Go.Proofs.YtkmfbafgbaapiaaW.PrintWords Go.Proofs.YtkmfbafgbaapiaaW.PrintLast Go.Proofs.YtkmfbafgbaapiaaW.PrintMore
attribute [local go_sem] max2_int min2_int max_two min_two
set_option linter.unusedVariables false
set_option linter.unusedSimpArgs false

def kindOf (c : Int) : Int := if c % 8 ≤ 3 then 1 else if c % 8 = 5 then 3 else if c % 8 = 6 then 4 else 2

theorem kindOf_get (c : Int) (hb : (c % 8).toNat < 8) : [Value.int .i64 1, .int .i64 1, .int .i64 1, .int .i64 1, .int .i64 2, .int .i64 3, .int .i64 4, .int .i64 2][(c % 8).toNat]'hb = (.int .i64 (kindOf c)) := by
  have : c % 8 = 0 ∨ c % 8 = 1 ∨ c % 8 = 2 ∨ c % 8 = 3 ∨ c % 8 = 4 ∨ c % 8 = 5 ∨ c % 8 = 6 ∨ c % 8 = 7 := by omega
  unfold kindOf
  rcases this with h | h | h | h | h | h | h | h <;> simp [h]

set_option maxHeartbeats 400000 in
theorem kindOf_calls (c : Int) (h0 : 0 ≤ c) (w : World) :
    Calls Try.prog 50 #[.int .u64 c] w fun e w' => e = .returned (.int .i64 (kindOf c)) ∧ Bw w w' := by
  have hb : (c % 8).toNat < 8 := by omega
  have HK := Aside0.mk (kindOf_get c hb)
  have HB := Aside0.mk (Bw.refl w)
  go_enter Try.func50, Try.ntmps50
  go_wp2
  go_ret
  exact ⟨congrArg Ending.returned HK.out, by first | exact HB.out | exact HB.out.alloc _⟩

def whoB (k : Int) : Bool := k == 1 || k == 4
theorem who_calls (k : Int) (w : World) :
    Calls Try.prog 51 #[.int .i64 k] w fun e w' => e = .returned (.bool (whoB k)) ∧ Bw w w' := by
  have HB := Aside0.mk (Bw.refl w)
  unfold whoB
  by_cases h : k = 1
  · subst h
    go_enter Try.func51, Try.ntmps51
    go_wp2
    go_ret
    exact ⟨rfl, HB.out⟩
  · have h1 : (k == 1) = false := by simpa using h
    clear h
    go_enter Try.func51, Try.ntmps51
    go_wp2
    go_ret
    exact ⟨by simp [h1], HB.out⟩

def many (n : Int) : Int := if n < 1 then 1 else if 256 < n then 256 else n
theorem many_range (n : Int) : 1 ≤ many n ∧ many n ≤ 256 := by unfold many; split <;> (try split) <;> omega
theorem many_calls (n : Int) (w : World) :
    Calls Try.prog 52 #[.int .i64 n] w fun e w' => e = .returned (.int .i64 (many n)) ∧ Bw w w' := by
  have HB := Aside0.mk (Bw.refl w)
  have HM := Aside0.mk (show (if 256 < (if n < 1 then 1 else n) then 256 else (if n < 1 then 1 else n)) = many n by unfold many; (repeat' split) <;> omega)
  go_enter Try.func52, Try.ntmps52
  go_wp2
  all_goals
    go_ret
    exact ⟨ret_int (by rw [← HM.out]; (repeat' split) <;> (try omega)), HB.out⟩

set_option maxHeartbeats 400000 in
theorem Bits_calls (x a b : Int) (h0 : 0 ≤ x) (h1 : x < 18446744073709551616) (ha : 0 ≤ a) (ha' : a < 64) (hb : 0 ≤ b) (hb' : b ≤ 64) (w : World) :
    Calls Try.prog 16 #[.int .u64 x, .int .i64 a, .int .i64 b] w fun e w' => e = .returned (.int .u64 (x / 2 ^ a.toNat % 2 ^ b.toNat)) ∧ Bw w w' := by
  have HB := Aside0.mk (Bw.refl w)
  have HX : Aside0 (0 ≤ x / 2 ^ a.toNat ∧ x / 2 ^ a.toNat < 18446744073709551616) := by
    have p0 : (0 : Int) < 2 ^ a.toNat := Int.pow_pos (by omega)
    have : x / 2 ^ a.toNat ≤ x := Int.ediv_le_self _ h0
    exact ⟨Int.ediv_nonneg h0 (by omega), by omega⟩
  clear h0 h1
  have h1 : decide (a < 0) = false := by simp; omega
  have h2 : decide (64 ≤ a) = false := by simp; omega
  have h3 : decide (b < 0) = false := by simp; omega
  have h4 : decide (64 < b) = false := by simp; omega
  by_cases h : b = 64
  · subst h
    go_enter Try.func16, Try.ntmps16
    go_wp2
    go_ret
    refine ⟨ret_int ?_, HB.out⟩
    have := HX.out
    exact (Int.emod_eq_of_lt this.1 this.2).symm
  · have h5 : (b == 64) = false := by simpa using h
    have HL : Aside0 (b.toNat < 64) := ⟨by omega⟩
    clear h
    go_enter Try.func16, Try.ntmps16
    go_wp2
    go_ret
    exact ⟨ret_int (mask64 _ HX.out.1 HX.out.2 _ HL.out), HB.out⟩
end Go.Proofs.Ytkmfbafgbaapiaa.M
