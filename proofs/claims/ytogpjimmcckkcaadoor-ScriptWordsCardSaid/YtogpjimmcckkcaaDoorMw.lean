/- What the functions of package word, and of its reference, answer. Conditions: the arguments are of their kinds. -/
import Derived.Test.YtogpjimmcckkcaaDoorMw0
namespace Go.Proofs.YtogpjimmcckkcaaDoor.M
open Go.RowKit Go.Proofs.YtogpjimmcckkcaaDoorW.PrintWords Go.Proofs.YtogpjimmcckkcaaDoorW.PrintLast Go.Proofs.YtogpjimmcckkcaaDoorW.PrintMore
attribute [local go_sem] max2_int min2_int max_two min_two
set_option linter.unusedVariables false
set_option linter.unusedSimpArgs false

def kindOf (c : Int) : Int := if c % 8 ≤ 3 then 1 else if c % 8 = 5 then 3 else if c % 8 = 6 then 4 else 2

theorem kindOf_get (c : Int) (hb : (c % 8).toNat < 8) : [Value.int .i64 1, .int .i64 1, .int .i64 1, .int .i64 1, .int .i64 2, .int .i64 3, .int .i64 4, .int .i64 2][(c % 8).toNat]'hb = (.int .i64 (kindOf c)) := by
  have : c % 8 = 0 ∨ c % 8 = 1 ∨ c % 8 = 2 ∨ c % 8 = 3 ∨ c % 8 = 4 ∨ c % 8 = 5 ∨ c % 8 = 6 ∨ c % 8 = 7 := by omega
  unfold kindOf
  rcases this with h | h | h | h | h | h | h | h <;> simp [h]

set_option maxHeartbeats 400000 in
theorem kindOf_calls (c : Int) (h0 : 0 ≤ c) (w : World) :
    Calls Tryd.prog 88 #[.int .u64 c] w fun e w' => e = .returned (.int .i64 (kindOf c)) ∧ Bw w w' := by
  have hb : (c % 8).toNat < 8 := by omega
  have HK := Aside0.mk (kindOf_get c hb)
  have HB := Aside0.mk (Bw.refl w)
  go_enter Tryd.func88, Tryd.ntmps88
  go_wp2
  go_ret
  exact ⟨congrArg Ending.returned HK.out, by first | exact HB.out | exact HB.out.alloc _⟩

def whoB (k : Int) : Bool := k == 1 || k == 4
theorem who_calls (k : Int) (w : World) :
    Calls Tryd.prog 73 #[.int .i64 k] w fun e w' => e = .returned (.bool (whoB k)) ∧ Bw w w' := by
  have HB := Aside0.mk (Bw.refl w)
  unfold whoB
  by_cases h : k = 1
  · subst h
    go_enter Tryd.func73, Tryd.ntmps73
    go_wp2
    go_ret
    exact ⟨rfl, HB.out⟩
  · have h1 : (k == 1) = false := by simpa using h
    clear h
    go_enter Tryd.func73, Tryd.ntmps73
    go_wp2
    go_ret
    exact ⟨by simp [h1], HB.out⟩

def many (n : Int) : Int := if n < 1 then 1 else if 256 < n then 256 else n
theorem many_range (n : Int) : 1 ≤ many n ∧ many n ≤ 256 := by unfold many; split <;> (try split) <;> omega
theorem many_calls (n : Int) (w : World) :
    Calls Tryd.prog 72 #[.int .i64 n] w fun e w' => e = .returned (.int .i64 (many n)) ∧ Bw w w' := by
  have HB := Aside0.mk (Bw.refl w)
  have HM := Aside0.mk (show (if 256 < (if n < 1 then 1 else n) then 256 else (if n < 1 then 1 else n)) = many n by unfold many; (repeat' split) <;> omega)
  go_enter Tryd.func72, Tryd.ntmps72
  go_wp2
  all_goals
    go_ret
    exact ⟨ret_int (by rw [← HM.out]; (repeat' split) <;> (try omega)), HB.out⟩

end Go.Proofs.YtogpjimmcckkcaaDoor.M
